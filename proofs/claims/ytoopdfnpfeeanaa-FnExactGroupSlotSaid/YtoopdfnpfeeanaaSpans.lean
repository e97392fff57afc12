/-
  Lists of spans: read where they lie, and made anew.
-/
import Derived.Test.YtoopdfnpfeeanaaSpan2
set_option linter.unusedVariables false
set_option linter.unusedSimpArgs false
namespace Go.Proofs.Ytoopdfnpfeeanaa
open Go.RowKit
structure Sp where
  p : Int
  c : Int
  b : Int
deriving DecidableEq, Inhabited
def Sp.val (s : Sp) : Value := .agg #[.int .i64 s.p, .int .i64 s.c, .int .i64 s.b]
def fSpan (s : Sp) : List Value := [.int .i64 s.p, .int .i64 s.c, .int .i64 s.b]
theorem elemSpan : ElemT Try.prog 48 25 (.agg #[.int .i64 0, .int .i64 0, .int .i64 0]) 3 24 := ⟨Try.underlying48, info_parts (by kernel_rfl), rfl, by decide⟩
theorem lenSpan : LenK 3 fSpan := fun _ => rfl
theorem oneSpan : ∀ y : Sp, ∀ u ∈ fSpan y, u.oneCell' = true := fun y u hu => by simp [fSpan] at hu; rcases hu with rfl | rfl | rfl <;> rfl
abbrev OwnSp (B : Nat) (w : World) (v : Value) (xs : List Sp) : Prop := Own 25 3 fSpan B w v xs
/-- A list of spans that can be read. -/
def SpansAt (w : World) (v : Value) (xs : List Sp) : Prop := ∃ ao cap, v = .slice ao xs.length cap ∧ xs.length ≤ cap ∧ cap ≤ maxLen ∧
  ∀ i (hi : i < xs.length), ∃ g o, ao = some ⟨g, o, none⟩ ∧ g < w.heap.size ∧ w.cell? ⟨g, o + i * 3, none⟩ = some (.int .i64 xs[i].p) ∧ w.cell? ⟨g, o + i * 3 + 1, none⟩ = some (.int .i64 xs[i].c) ∧ w.cell? ⟨g, o + i * 3 + 2, none⟩ = some (.int .i64 xs[i].b)
theorem SpansAt.below {w w' : World} {v : Value} {xs : List Sp} (h : SpansAt w v xs) (hb : Below w.heap.size w w') : SpansAt w' v xs := by
  obtain ⟨ao, cap, rfl, h1, h2, hr⟩ := h
  refine ⟨ao, cap, rfl, h1, h2, fun i hi => ?_⟩
  obtain ⟨g, o, rfl, hg, c0, c1, c2⟩ := hr i hi
  have := hb.size
  exact ⟨g, o, rfl, by omega, (hb.cell (p := ⟨g, o + i * 3, none⟩) hg).trans c0, (hb.cell (p := ⟨g, o + i * 3 + 1, none⟩) hg).trans c1, (hb.cell (p := ⟨g, o + i * 3 + 2, none⟩) hg).trans c2⟩
theorem OwnSp.at {B : Nat} {w : World} {v : Value} {xs : List Sp} (h : OwnSp B w v xs) : SpansAt w v xs := by
  obtain ⟨ao, cap, rfl, h1, h2, hr⟩ := h.read lenSpan
  refine ⟨ao, cap, rfl, h1, h2, fun i hi => ?_⟩
  obtain ⟨g, rfl, hB, hg, _, hc⟩ := hr i hi
  exact ⟨g, 0, rfl, hg, by rw [Nat.zero_add]; simpa [fSpan] using hc 0 (by omega), by rw [Nat.zero_add]; simpa [fSpan] using hc 1 (by omega), by rw [Nat.zero_add]; simpa [fSpan] using hc 2 (by omega)⟩
theorem SpansAt.open {w : World} {v : Value} {xs : List Sp} (h : SpansAt w v xs) : ∃ ao cap, v = .slice ao xs.length cap ∧ xs.length ≤ cap ∧ cap ≤ maxLen ∧
    ∀ i, i < xs.length → ∃ g o, ao = some ⟨g, o, none⟩ ∧ g < w.heap.size ∧ w.cell? ⟨g, o + i * 3, none⟩ = some (.int .i64 (xs.getD i default).p) ∧ w.cell? ⟨g, o + i * 3 + 1, none⟩ = some (.int .i64 (xs.getD i default).c) ∧ w.cell? ⟨g, o + i * 3 + 2, none⟩ = some (.int .i64 (xs.getD i default).b) := by
  obtain ⟨ao, cap, rfl, h1, h2, hr⟩ := h
  refine ⟨ao, cap, rfl, h1, h2, fun i hi => ?_⟩
  have : xs.getD i default = xs[i] := by rw [List.getD_eq_getElem?_getD, List.getElem?_eq_getElem hi, Option.getD_some]
  rw [this]
  exact hr i hi
/-- The beginning of it. -/
theorem SpansAt.take {w : World} {ao : Option Addr} {n cap : Nat} {xs : List Sp} (h : SpansAt w (.slice ao n cap) xs) (k : Nat) (hk : k ≤ xs.length) : SpansAt w (.slice ao k cap) (xs.take k) := by
  obtain ⟨ao', cap', he, h1, h2, hr⟩ := h
  simp only [Value.slice.injEq] at he
  obtain ⟨rfl, rfl, rfl⟩ := he
  have hl : (xs.take k).length = k := by simp; omega
  refine ⟨ao, cap, by rw [hl], by omega, h2, fun i hi => ?_⟩
  obtain ⟨g, o, rfl, hg, c⟩ := hr i (by omega)
  exact ⟨g, o, rfl, hg, by simpa using c⟩
theorem l_szSpanS (ao : Option Addr) (n cap : Nat) (hn : n ≤ maxLen) (left : Int) (hl : 0 ≤ left ∧ left ≤ 1048576) (w : World) : Calls Try.prog 42 #[.slice ao n cap, .int .i64 left] w fun e w' => e = .returned (.int .i64 (if left - n < 0 then -1 else left - n)) ∧ w = w' := by
  have hm : n ≤ 9223372036854775807 := by unfold maxLen at hn; omega
  clear hn
  by_cases h : left - n < 0
  all_goals (have hall := all_nil w; go_enter Try.func42, Try.ntmps42)
  all_goals go_wp2
  all_goals (go_ret; exact ⟨by simp [h], rfl⟩)
/-- 'make([]T, n)': n zero elements. -/
theorem replicate_flat {α : Type} {f : α → List Value} {z : Value} {x : α} (hz : f x = z.cells.toList) (k : Nat) (hk : z.cells.size = k) (hpos : 0 < k) (n : Nat) : (madeCells z.cells (n * k)).toList = (List.replicate n x).flatMap f := by
  have hl : (f x).length = k := by rw [hz]; simpa using hk
  apply List.ext_getElem?
  intro j
  by_cases hj : j < n * k
  · have h1 : ((List.replicate n x).flatMap f)[j]? = (f x)[j % k]? := by
      have hd : j / k < n := (Nat.div_lt_iff_lt_mul hpos).2 hj
      have hm : j % k < k := Nat.mod_lt _ hpos
      have hjj : j = j / k * k + j % k := by rw [Nat.mul_comm]; exact (Nat.div_add_mod j k).symm
      have hlk : ∀ n, ((List.replicate n x).flatMap f).length = n * k := fun n => by simp [hl]
      have : ∀ (n i m : Nat), i < n → m < k → ((List.replicate n x).flatMap f)[i * k + m]? = (f x)[m]? := by
        intro n
        induction n with
        | zero => intro i m h; omega
        | succ n ih =>
          intro i m hi hm
          rw [List.replicate_succ, List.flatMap_cons]
          cases i with
          | zero => rw [List.getElem?_append_left (by rw [hl]; omega)]; simp
          | succ i => rw [List.getElem?_append_right (by rw [hl, Nat.add_mul]; omega), hl, show (i + 1) * k + m - k = i * k + m by rw [Nat.add_mul]; omega]; exact ih i m (by omega) hm
      have h2 := this n (j / k) (j % k) hd hm
      rwa [← hjj] at h2
    rw [h1, hz]
    have hm := Nat.mod_lt j hpos
    simp [madeCells, hj, hk]
    rw [Array.getElem?_eq_getElem (by omega), getElem!_pos]
  · simp [madeCells, hj, hl]
    try omega
section
variable {P : Program} {ops : Array Oper} {rest : List Oper} {o : Oper} {a : Act} {Q : Exit → Act → World → Prop} {w : World}
theorem make1 {T E : TypeId} {z : Value} {k bytes : Nat} (ht : ElemT P T E z k bytes) (hgd : o.guard = none) (l c : Operand) (hop : o.op = Op.makeSlice T l c) {α : Type} {f : α → List Value} {x : α} (hz : f x = z.cells.toList)
    (kl kc : IntKind) (n : Nat) (hl : a.eval l = .int kl n) (hc : a.eval c = .int kc n) (b2 : bytes * n ≤ 281474976710656) (b3 : n ≤ maxLen)
    (h : ∀ v' w', v' = .slice (some ⟨w.heap.size, 0, none⟩) n n → Own E k f w.heap.size w' v' (List.replicate n x) → Below w.heap.size w w' → wpList P ops Q rest (a.put o.dst v') w') : wpList P ops Q (o :: rest) a w := by
  obtain ⟨i, hi, hz', hk, hby⟩ := ht.info
  refine wpList_make_full (P := P) w hgd l c T hop w.heap.size E i z k ht.und hi hz' hk kl kc n n n hl hc rfl rfl (by rw [hby]; exact b2) b3 (Nat.le_refl _) fun w' h2 h3 => ?_
  refine h _ w' rfl ?_ ((Below.refl _ _).grown h3 (Nat.le_refl _) (by simp))
  unfold Own
  rw [List.length_replicate, ← replicate_flat hz k ht.zc ht.pos]
  exact h2
end
def setRun (w : World) (g o : Nat) : List Value → World
  | [] => w
  | v :: vs => setRun (w.setCell ⟨g, o, none⟩ v) g (o + 1) vs
def setAll (xs : List Value) (o : Nat) : List Value → List Value
  | [] => xs
  | v :: vs => setAll (xs.set o v) (o + 1) vs
theorem setAll_len : ∀ (us xs : List Value) (o : Nat), (setAll xs o us).length = xs.length
  | [], xs, o => rfl
  | u :: us, xs, o => by rw [setAll, setAll_len us]; simp
theorem setAll_get : ∀ (us xs : List Value) (o : Nat) (m : Nat), o + us.length ≤ xs.length → (setAll xs o us)[m]? = if o ≤ m ∧ m < o + us.length then us[m - o]? else xs[m]?
  | [], xs, o, m, h => by rw [setAll, if_neg (by rw [List.length_nil]; omega)]
  | u :: us, xs, o, m, h => by
    simp only [List.length_cons] at h
    rw [setAll, setAll_get us _ _ _ (by simp; omega)]
    by_cases h1 : m = o
    · subst h1
      rw [if_neg (by omega), if_pos (by rw [List.length_cons]; omega)]
      rw [List.getElem?_set_self (by omega)]; simp
    · by_cases h2 : o + 1 ≤ m ∧ m < o + 1 + us.length
      · rw [if_pos h2, if_pos (by rw [List.length_cons]; omega), show m - o = (m - (o + 1)) + 1 by omega]; simp
      · rw [if_neg h2, if_neg (by rw [List.length_cons]; omega), List.getElem?_set_ne (by omega)]
theorem rowStored {base e size g n cap : Nat} : ∀ (us : List Value) (w : World) (xs : List Value) (o : Nat), w.ownsRow base e size (.slice (some ⟨g, 0, none⟩) n cap) n xs → (setRun w g o us).ownsRow base e size (.slice (some ⟨g, 0, none⟩) n cap) n (setAll xs o us) ∧ w.grownBy (setRun w g o us) (some g)
  | [], w, xs, o, h => ⟨h, grown_refl w _⟩
  | u :: us, w, xs, o, h => by
    obtain ⟨h1, h2⟩ := World.ownsRow.stored h o u
    obtain ⟨h3, h4⟩ := rowStored us _ _ (o + 1) h1
    exact ⟨h3, grown_trans h2 h4⟩
/-- A store of a whole element. -/
theorem Own.setk {α : Type} {E k : Nat} {f : α → List Value} (hf : LenK k f) {B : Nat} {w : World} {v : Value} {xs : List α} {g n cap : Nat} (h : Own E k f B w v xs) (hv : v = .slice (some ⟨g, 0, none⟩) n cap) (i : Nat) (hi : i < xs.length) (y : α) :
    Own E k f B (setRun w g (i * k) (f y)) v (xs.set i y) ∧ w.grownBy (setRun w g (i * k) (f y)) v.ownBlock := by
  have hn : n = xs.length := by
    obtain ⟨ao, cap', he, _⟩ := h.shape
    rw [hv] at he; simp at he; exact he.2.1
  subst hv
  subst hn
  unfold Own at h
  obtain ⟨h1, h2⟩ := rowStored (f y) w _ (i * k) h
  refine ⟨?_, h2⟩
  unfold Own
  rw [List.length_set]
  have he : setAll (xs.flatMap f) (i * k) (f y) = (xs.set i y).flatMap f := by
    have hle : (i + 1) * k ≤ xs.length * k := Nat.mul_le_mul_right _ hi
    rw [Nat.add_mul] at hle
    apply List.ext_getElem?
    intro m
    rw [setAll_get _ _ _ _ (by rw [flat_len hf, hf]; omega), hf]
    by_cases hm : m < xs.length * k
    · have hk : 0 < k := by
        rcases Nat.eq_zero_or_pos k with h0 | h0
        · subst h0; omega
        · exact h0
      have hd : m / k < xs.length := (Nat.div_lt_iff_lt_mul hk).2 hm
      have hr : m % k < k := Nat.mod_lt _ hk
      have hmm : m = m / k * k + m % k := by rw [Nat.mul_comm]; exact (Nat.div_add_mod m k).symm
      generalize m / k = q at *
      generalize m % k = r at *
      subst hmm
      rw [flat_get hf (xs.set i y) q r (by simpa using hd) hr, flat_get hf xs q r hd hr]
      by_cases hq : q = i
      · subst hq
        rw [if_pos (by omega)]
        simp
      · have : ¬ (i * k ≤ q * k + r ∧ q * k + r < i * k + k) := by
          rcases Nat.lt_or_gt_of_ne hq with h' | h'
          · have := Nat.mul_le_mul_right k (show q + 1 ≤ i by omega)
            rw [Nat.add_mul] at this
            omega
          · have := Nat.mul_le_mul_right k (show i + 1 ≤ q by omega)
            rw [Nat.add_mul] at this
            omega
        rw [if_neg this]
        rw [List.getElem_set_ne (by omega)]
    · rw [if_neg (by omega), List.getElem?_eq_none (by rw [flat_len hf]; omega), List.getElem?_eq_none (by rw [flat_len hf]; simp; omega)]
  rw [← he]
  exact h1
theorem zeroSpan : fSpan ⟨0, 0, 0⟩ = (Value.agg #[.int .i64 0, .int .i64 0, .int .i64 0]).cells.toList := by first | rfl | kernel_rfl | simp [fSpan, Value.cells]
theorem mix_set {α : Type} {n j : Nat} (xs : List α) (z : α) (hn : n = xs.length) (hj : j < xs.length) : (xs.take j ++ List.replicate (n - j) z).set j xs[j] = xs.take (j + 1) ++ List.replicate (n - (j + 1)) z := by
  have hl : (xs.take j).length = j := by simp; omega
  rw [List.set_append_right _ _ (by omega), hl, Nat.sub_self, show n - j = (n - (j + 1)) + 1 by omega, List.replicate_succ, List.set_cons_zero, List.take_succ_eq_append_getElem hj, List.append_assoc]
  rfl
/-- What stands at one element of it, and that it may be written. -/
theorem OwnSp.slot {B : Nat} {w : World} {g n cap : Nat} {xs : List Sp} (h : OwnSp B w (.slice (some ⟨g, 0, none⟩) n cap) xs) (j : Nat) (hj : j < xs.length) : g < w.heap.size ∧ ∃ a b c, w.cell? ⟨g, j * 3, none⟩ = some (.int .i64 a) ∧ w.cell? ⟨g, j * 3 + 1, none⟩ = some (.int .i64 b) ∧ w.cell? ⟨g, j * 3 + 2, none⟩ = some (.int .i64 c) ∧
    w.frozen? ⟨g, j * 3, none⟩ = false ∧ w.frozen? ⟨g, j * 3 + 1, none⟩ = false ∧ w.frozen? ⟨g, j * 3 + 2, none⟩ = false := by
  obtain ⟨ao', ca', he, _, _, hr⟩ := Own.read h lenSpan
  obtain ⟨g', he', _, hg', hz', hc'⟩ := hr j hj
  simp only [Value.slice.injEq] at he
  obtain ⟨rfl, _, rfl⟩ := he
  simp only [Option.some.injEq, Addr.mk.injEq, and_true] at he'
  obtain rfl := he'
  exact ⟨hg', _, _, _, by simpa [fSpan] using hc' 0 (by omega), by simpa [fSpan] using hc' 1 (by omega), by simpa [fSpan] using hc' 2 (by omega), hz' _, hz' _, hz' _⟩
theorem l_toSpanS (va : Value) (xs : List Sp) (hx : xs.length ≤ 1048576) (w : World) (ha : SpansAt w va xs) : Calls Try.prog 44 #[va] w fun e w' => ∃ v, e = .returned v ∧ OwnSp w.heap.size w' v xs ∧ Below w.heap.size w w' := by
  obtain ⟨ao, ca, rfl, h1, h2, hr⟩ := ha
  obtain ⟨n, hn⟩ : ∃ n, n = xs.length := ⟨_, rfl⟩
  have HN := Lib.hid hn
  rw [← hn] at hx h1
  have HA := Lib.hid hr; clear hr
  rw [← hn]
  clear hn
  (have hall := all_nil w; go_enter Try.func44, Try.ntmps44)
  go_wp2_with (at_make; go_loud (refine make1 elemSpan rfl _ _ rfl zeroSpan .i64 .i64 n rfl rfl (by omega) (by unfold maxLen; omega) ?_); intro v2 w2 hv hown hb)
  go_loopw [4] (fun i wr => ∃ j : Nat, j ≤ n ∧ i = .int .i64 j ∧ OwnSp w.heap.size wr v2 (xs.take j ++ List.replicate (n - j) ⟨0, 0, 0⟩) ∧ Below w.heap.size w wr) (fun i _ => n - (intOf i).toNat)
  case atStart => exact ⟨0, Nat.zero_le _, rfl, by simpa using hown, hb⟩
  case round =>
    obtain ⟨j, hj, rfl, hown, hbel⟩ := hrel
    have HO := Lib.hid hown; have HB := Lib.hid hbel
    have hsz := hbel.size
    clear hown hbel
    by_cases hlt : j < n
    · have hlt' : (j : Int) < n := by omega
      obtain ⟨g, o, rfl, hg, c0, c1, c2⟩ := HA.out j (by have := HN.out; omega)
      replace c0 := (HB.out.cell (p := ⟨g, o + j * 3, none⟩) hg).trans c0
      replace c1 := (HB.out.cell (p := ⟨g, o + j * 3 + 1, none⟩) hg).trans c1
      replace c2 := (HB.out.cell (p := ⟨g, o + j * 3 + 2, none⟩) hg).trans c2
      subst hv
      clear hown
      have hlen : (xs.take j ++ List.replicate (n - j) (⟨0, 0, 0⟩ : Sp)).length = n := by have := HN.out; simp; omega
      obtain ⟨hgo, e0, e1, e2, d0, d1, d2, f0, f1, f2⟩ := OwnSp.slot HO.out j (by omega)
      (obtain ⟨w1, rfl⟩ : ∃ x, x = wr := ⟨_, rfl⟩; have hall : allLt [g, w.heap.size] w1.heap.size := ⟨by omega, by omega, trivial⟩; have hx := hall; (try simp only [allLt, and_true] at hx))
      go_wp2_with (first | (go_at_call 16; (refine (l_toSpan _ _ _ _).mono ?_); rintro e w2 ⟨rfl, hb⟩; (have hc := cellX hb hall (by ((try simp only [World.size_alloc, World.size_setCell, World.size_drew]); omega))); (have hf := frozenX hb hall (by ((try simp only [World.size_alloc, World.size_setCell, World.size_drew]); omega))); (try (have hc0 := cell0 hb hall (by ((try simp only [World.size_alloc, World.size_setCell, World.size_drew]); omega)); have hf0 := frozen0 hb hall (by ((try simp only [World.size_alloc, World.size_setCell, World.size_drew]); omega)); (try (have hc1 := cell1 hb hall (by ((try simp only [World.size_alloc, World.size_setCell, World.size_drew]); omega)); have hf1 := frozen1 hb hall (by ((try simp only [World.size_alloc, World.size_setCell, World.size_drew]); omega)); (try (have hc2 := cell2 hb hall (by ((try simp only [World.size_alloc, World.size_setCell, World.size_drew]); omega)); have hf2 := frozen2 hb hall (by ((try simp only [World.size_alloc, World.size_setCell, World.size_drew]); omega)); (try (have hc3 := cell3 hb hall (by ((try simp only [World.size_alloc, World.size_setCell, World.size_drew]); omega)); have hf3 := frozen3 hb hall (by ((try simp only [World.size_alloc, World.size_setCell, World.size_drew]); omega)))))))))); have hz := hb.size; (try simp only [World.size_alloc, World.size_setCell, World.size_drew] at hz); (first | (replace hall := ext4 (w2 := w2) hall (by omega)) | (replace hall := ext3 (w2 := w2) hall (by omega)) | (replace hall := ext2 (w2 := w2) hall (by omega)) | (replace hall := ext1 (w2 := w2) hall (by omega)) | (replace hall := ext0 (w2 := w2) hall (by omega))); have hx := hall; (try simp only [allLt, and_true] at hx); (try (have hO := HO.out; replace HO := Lib.hid (Own.below hO (w' := w2) (by (repeat (first | exact Below.refl _ _ | refine Below.alloc ?_ (by (try simp only [World.size_alloc, World.size_setCell, World.size_drew]); omega) _ | refine Below.setCell ?_ (by (try simp only [World.size_alloc, World.size_setCell, World.size_drew]); omega) _ | refine Below.drew ?_ | (refine Below.trans ?_ (Below.mono (by assumption) (by (try simp only [World.size_alloc, World.size_setCell, World.size_drew]); omega))))))); clear hO)); (try replace own0 := Own.below own0 (w' := w2) (by (repeat (first | exact Below.refl _ _ | refine Below.alloc ?_ (by (try simp only [World.size_alloc, World.size_setCell, World.size_drew]); omega) _ | refine Below.setCell ?_ (by (try simp only [World.size_alloc, World.size_setCell, World.size_drew]); omega) _ | refine Below.drew ?_ | (refine Below.trans ?_ (Below.mono (by assumption) (by (try simp only [World.size_alloc, World.size_setCell, World.size_drew]); omega))))))); (try replace own1 := Own.below own1 (w' := w2) (by (repeat (first | exact Below.refl _ _ | refine Below.alloc ?_ (by (try simp only [World.size_alloc, World.size_setCell, World.size_drew]); omega) _ | refine Below.setCell ?_ (by (try simp only [World.size_alloc, World.size_setCell, World.size_drew]); omega) _ | refine Below.drew ?_ | (refine Below.trans ?_ (Below.mono (by assumption) (by (try simp only [World.size_alloc, World.size_setCell, World.size_drew]); omega))))))); (try replace own2 := Own.below own2 (w' := w2) (by (repeat (first | exact Below.refl _ _ | refine Below.alloc ?_ (by (try simp only [World.size_alloc, World.size_setCell, World.size_drew]); omega) _ | refine Below.setCell ?_ (by (try simp only [World.size_alloc, World.size_setCell, World.size_drew]); omega) _ | refine Below.drew ?_ | (refine Below.trans ?_ (Below.mono (by assumption) (by (try simp only [World.size_alloc, World.size_setCell, World.size_drew]); omega))))))); (try replace own3 := Own.below own3 (w' := w2) (by (repeat (first | exact Below.refl _ _ | refine Below.alloc ?_ (by (try simp only [World.size_alloc, World.size_setCell, World.size_drew]); omega) _ | refine Below.setCell ?_ (by (try simp only [World.size_alloc, World.size_setCell, World.size_drew]); omega) _ | refine Below.drew ?_ | (refine Below.trans ?_ (Below.mono (by assumption) (by (try simp only [World.size_alloc, World.size_setCell, World.size_drew]); omega))))))); obtain ⟨w1, rfl⟩ : ∃ x, x = w2 := ⟨_, rfl⟩) | (with_reducible refine wp_region_grew2 (by kernel_rfl) (by kernel_rfl) ?_; intro w2 hb; (have hc := cellX hb hall (by ((try simp only [World.size_alloc, World.size_setCell, World.size_drew]); omega))); (have hf := frozenX hb hall (by ((try simp only [World.size_alloc, World.size_setCell, World.size_drew]); omega))); (try (have hc0 := cell0 hb hall (by ((try simp only [World.size_alloc, World.size_setCell, World.size_drew]); omega)); have hf0 := frozen0 hb hall (by ((try simp only [World.size_alloc, World.size_setCell, World.size_drew]); omega)); (try (have hc1 := cell1 hb hall (by ((try simp only [World.size_alloc, World.size_setCell, World.size_drew]); omega)); have hf1 := frozen1 hb hall (by ((try simp only [World.size_alloc, World.size_setCell, World.size_drew]); omega)); (try (have hc2 := cell2 hb hall (by ((try simp only [World.size_alloc, World.size_setCell, World.size_drew]); omega)); have hf2 := frozen2 hb hall (by ((try simp only [World.size_alloc, World.size_setCell, World.size_drew]); omega)); (try (have hc3 := cell3 hb hall (by ((try simp only [World.size_alloc, World.size_setCell, World.size_drew]); omega)); have hf3 := frozen3 hb hall (by ((try simp only [World.size_alloc, World.size_setCell, World.size_drew]); omega)))))))))); have hz := hb.size; (try simp only [World.size_alloc, World.size_setCell, World.size_drew] at hz); (first | (replace hall := ext4 (w2 := w2) hall (by omega)) | (replace hall := ext3 (w2 := w2) hall (by omega)) | (replace hall := ext2 (w2 := w2) hall (by omega)) | (replace hall := ext1 (w2 := w2) hall (by omega)) | (replace hall := ext0 (w2 := w2) hall (by omega))); have hx := hall; (try simp only [allLt, and_true] at hx); (try (have hO := HO.out; replace HO := Lib.hid (Own.below hO (w' := w2) (by (repeat (first | exact Below.refl _ _ | refine Below.alloc ?_ (by (try simp only [World.size_alloc, World.size_setCell, World.size_drew]); omega) _ | refine Below.setCell ?_ (by (try simp only [World.size_alloc, World.size_setCell, World.size_drew]); omega) _ | refine Below.drew ?_ | (refine Below.trans ?_ (Below.mono (by assumption) (by (try simp only [World.size_alloc, World.size_setCell, World.size_drew]); omega))))))); clear hO)); (try replace own0 := Own.below own0 (w' := w2) (by (repeat (first | exact Below.refl _ _ | refine Below.alloc ?_ (by (try simp only [World.size_alloc, World.size_setCell, World.size_drew]); omega) _ | refine Below.setCell ?_ (by (try simp only [World.size_alloc, World.size_setCell, World.size_drew]); omega) _ | refine Below.drew ?_ | (refine Below.trans ?_ (Below.mono (by assumption) (by (try simp only [World.size_alloc, World.size_setCell, World.size_drew]); omega))))))); (try replace own1 := Own.below own1 (w' := w2) (by (repeat (first | exact Below.refl _ _ | refine Below.alloc ?_ (by (try simp only [World.size_alloc, World.size_setCell, World.size_drew]); omega) _ | refine Below.setCell ?_ (by (try simp only [World.size_alloc, World.size_setCell, World.size_drew]); omega) _ | refine Below.drew ?_ | (refine Below.trans ?_ (Below.mono (by assumption) (by (try simp only [World.size_alloc, World.size_setCell, World.size_drew]); omega))))))); (try replace own2 := Own.below own2 (w' := w2) (by (repeat (first | exact Below.refl _ _ | refine Below.alloc ?_ (by (try simp only [World.size_alloc, World.size_setCell, World.size_drew]); omega) _ | refine Below.setCell ?_ (by (try simp only [World.size_alloc, World.size_setCell, World.size_drew]); omega) _ | refine Below.drew ?_ | (refine Below.trans ?_ (Below.mono (by assumption) (by (try simp only [World.size_alloc, World.size_setCell, World.size_drew]); omega))))))); (try replace own3 := Own.below own3 (w' := w2) (by (repeat (first | exact Below.refl _ _ | refine Below.alloc ?_ (by (try simp only [World.size_alloc, World.size_setCell, World.size_drew]); omega) _ | refine Below.setCell ?_ (by (try simp only [World.size_alloc, World.size_setCell, World.size_drew]); omega) _ | refine Below.drew ?_ | (refine Below.trans ?_ (Below.mono (by assumption) (by (try simp only [World.size_alloc, World.size_setCell, World.size_drew]); omega))))))); obtain ⟨w1, rfl⟩ : ∃ x, x = w2 := ⟨_, rfl⟩; (repeat (go_big_quiet_step (first | (go_at_call 16; exact calls_grew (l_toSpan _ _ _ _))))); refine wpQuiet_nil ?_; intro w2 hw'; have hb := grew_below hw'; clear hw'; (have hc := cellX hb hall (by ((try simp only [World.size_alloc, World.size_setCell, World.size_drew]); omega))); (have hf := frozenX hb hall (by ((try simp only [World.size_alloc, World.size_setCell, World.size_drew]); omega))); (try (have hc0 := cell0 hb hall (by ((try simp only [World.size_alloc, World.size_setCell, World.size_drew]); omega)); have hf0 := frozen0 hb hall (by ((try simp only [World.size_alloc, World.size_setCell, World.size_drew]); omega)); (try (have hc1 := cell1 hb hall (by ((try simp only [World.size_alloc, World.size_setCell, World.size_drew]); omega)); have hf1 := frozen1 hb hall (by ((try simp only [World.size_alloc, World.size_setCell, World.size_drew]); omega)); (try (have hc2 := cell2 hb hall (by ((try simp only [World.size_alloc, World.size_setCell, World.size_drew]); omega)); have hf2 := frozen2 hb hall (by ((try simp only [World.size_alloc, World.size_setCell, World.size_drew]); omega)); (try (have hc3 := cell3 hb hall (by ((try simp only [World.size_alloc, World.size_setCell, World.size_drew]); omega)); have hf3 := frozen3 hb hall (by ((try simp only [World.size_alloc, World.size_setCell, World.size_drew]); omega)))))))))); have hz := hb.size; (try simp only [World.size_alloc, World.size_setCell, World.size_drew] at hz); (first | (replace hall := ext4 (w2 := w2) hall (by omega)) | (replace hall := ext3 (w2 := w2) hall (by omega)) | (replace hall := ext2 (w2 := w2) hall (by omega)) | (replace hall := ext1 (w2 := w2) hall (by omega)) | (replace hall := ext0 (w2 := w2) hall (by omega))); have hx := hall; (try simp only [allLt, and_true] at hx); (try (have hO := HO.out; replace HO := Lib.hid (Own.below hO (w' := w2) (by (repeat (first | exact Below.refl _ _ | refine Below.alloc ?_ (by (try simp only [World.size_alloc, World.size_setCell, World.size_drew]); omega) _ | refine Below.setCell ?_ (by (try simp only [World.size_alloc, World.size_setCell, World.size_drew]); omega) _ | refine Below.drew ?_ | (refine Below.trans ?_ (Below.mono (by assumption) (by (try simp only [World.size_alloc, World.size_setCell, World.size_drew]); omega))))))); clear hO)); (try replace own0 := Own.below own0 (w' := w2) (by (repeat (first | exact Below.refl _ _ | refine Below.alloc ?_ (by (try simp only [World.size_alloc, World.size_setCell, World.size_drew]); omega) _ | refine Below.setCell ?_ (by (try simp only [World.size_alloc, World.size_setCell, World.size_drew]); omega) _ | refine Below.drew ?_ | (refine Below.trans ?_ (Below.mono (by assumption) (by (try simp only [World.size_alloc, World.size_setCell, World.size_drew]); omega))))))); (try replace own1 := Own.below own1 (w' := w2) (by (repeat (first | exact Below.refl _ _ | refine Below.alloc ?_ (by (try simp only [World.size_alloc, World.size_setCell, World.size_drew]); omega) _ | refine Below.setCell ?_ (by (try simp only [World.size_alloc, World.size_setCell, World.size_drew]); omega) _ | refine Below.drew ?_ | (refine Below.trans ?_ (Below.mono (by assumption) (by (try simp only [World.size_alloc, World.size_setCell, World.size_drew]); omega))))))); (try replace own2 := Own.below own2 (w' := w2) (by (repeat (first | exact Below.refl _ _ | refine Below.alloc ?_ (by (try simp only [World.size_alloc, World.size_setCell, World.size_drew]); omega) _ | refine Below.setCell ?_ (by (try simp only [World.size_alloc, World.size_setCell, World.size_drew]); omega) _ | refine Below.drew ?_ | (refine Below.trans ?_ (Below.mono (by assumption) (by (try simp only [World.size_alloc, World.size_setCell, World.size_drew]); omega))))))); (try replace own3 := Own.below own3 (w' := w2) (by (repeat (first | exact Below.refl _ _ | refine Below.alloc ?_ (by (try simp only [World.size_alloc, World.size_setCell, World.size_drew]); omega) _ | refine Below.setCell ?_ (by (try simp only [World.size_alloc, World.size_setCell, World.size_drew]); omega) _ | refine Below.drew ?_ | (refine Below.trans ?_ (Below.mono (by assumption) (by (try simp only [World.size_alloc, World.size_setCell, World.size_drew]); omega))))))); obtain ⟨w1, rfl⟩ : ∃ x, x = w2 := ⟨_, rfl⟩))
      go_roundw
      case rel =>
        have S := Own.setk lenSpan HO.out rfl j (by omega) (xs[j]'(by have := HN.out; omega))
        rw [mix_set _ _ HN.out (by have := HN.out; omega)] at S
        have hB := HB.out
        exact ⟨j + 1, by omega, by go_num, S.1, by (repeat (first | exact Below.refl _ _ | refine Below.alloc ?_ (by (try simp only [World.size_alloc, World.size_setCell, World.size_drew]); omega) _ | refine Below.setCell ?_ (by (try simp only [World.size_alloc, World.size_setCell, World.size_drew]); omega) _ | refine Below.drew ?_ | (refine Below.trans ?_ (Below.mono (by assumption) (by (try simp only [World.size_alloc, World.size_setCell, World.size_drew]); omega)))))⟩
      case measure => simp [intOf]; omega
    · have hlt' : ¬ (j : Int) < n := by omega
      obtain rfl : j = n := by omega
      subst hv
      clear hown
      go_wp2_with (first | (with_reducible refine wp_region_grew2 (by kernel_rfl) (by kernel_rfl) ?_; intro w2 hb; (have hc := cellX hb hall (by ((try simp only [World.size_alloc, World.size_setCell, World.size_drew]); omega))); (have hf := frozenX hb hall (by ((try simp only [World.size_alloc, World.size_setCell, World.size_drew]); omega))); (try (have hc0 := cell0 hb hall (by ((try simp only [World.size_alloc, World.size_setCell, World.size_drew]); omega)); have hf0 := frozen0 hb hall (by ((try simp only [World.size_alloc, World.size_setCell, World.size_drew]); omega)); (try (have hc1 := cell1 hb hall (by ((try simp only [World.size_alloc, World.size_setCell, World.size_drew]); omega)); have hf1 := frozen1 hb hall (by ((try simp only [World.size_alloc, World.size_setCell, World.size_drew]); omega)); (try (have hc2 := cell2 hb hall (by ((try simp only [World.size_alloc, World.size_setCell, World.size_drew]); omega)); have hf2 := frozen2 hb hall (by ((try simp only [World.size_alloc, World.size_setCell, World.size_drew]); omega)); (try (have hc3 := cell3 hb hall (by ((try simp only [World.size_alloc, World.size_setCell, World.size_drew]); omega)); have hf3 := frozen3 hb hall (by ((try simp only [World.size_alloc, World.size_setCell, World.size_drew]); omega)))))))))); have hz := hb.size; (try simp only [World.size_alloc, World.size_setCell, World.size_drew] at hz); (first | (replace hall := ext4 (w2 := w2) hall (by omega)) | (replace hall := ext3 (w2 := w2) hall (by omega)) | (replace hall := ext2 (w2 := w2) hall (by omega)) | (replace hall := ext1 (w2 := w2) hall (by omega)) | (replace hall := ext0 (w2 := w2) hall (by omega))); have hx := hall; (try simp only [allLt, and_true] at hx); (try (have hO := HO.out; replace HO := Lib.hid (Own.below hO (w' := w2) (by (repeat (first | exact Below.refl _ _ | refine Below.alloc ?_ (by (try simp only [World.size_alloc, World.size_setCell, World.size_drew]); omega) _ | refine Below.setCell ?_ (by (try simp only [World.size_alloc, World.size_setCell, World.size_drew]); omega) _ | refine Below.drew ?_ | (refine Below.trans ?_ (Below.mono (by assumption) (by (try simp only [World.size_alloc, World.size_setCell, World.size_drew]); omega))))))); clear hO)); (try replace own0 := Own.below own0 (w' := w2) (by (repeat (first | exact Below.refl _ _ | refine Below.alloc ?_ (by (try simp only [World.size_alloc, World.size_setCell, World.size_drew]); omega) _ | refine Below.setCell ?_ (by (try simp only [World.size_alloc, World.size_setCell, World.size_drew]); omega) _ | refine Below.drew ?_ | (refine Below.trans ?_ (Below.mono (by assumption) (by (try simp only [World.size_alloc, World.size_setCell, World.size_drew]); omega))))))); (try replace own1 := Own.below own1 (w' := w2) (by (repeat (first | exact Below.refl _ _ | refine Below.alloc ?_ (by (try simp only [World.size_alloc, World.size_setCell, World.size_drew]); omega) _ | refine Below.setCell ?_ (by (try simp only [World.size_alloc, World.size_setCell, World.size_drew]); omega) _ | refine Below.drew ?_ | (refine Below.trans ?_ (Below.mono (by assumption) (by (try simp only [World.size_alloc, World.size_setCell, World.size_drew]); omega))))))); (try replace own2 := Own.below own2 (w' := w2) (by (repeat (first | exact Below.refl _ _ | refine Below.alloc ?_ (by (try simp only [World.size_alloc, World.size_setCell, World.size_drew]); omega) _ | refine Below.setCell ?_ (by (try simp only [World.size_alloc, World.size_setCell, World.size_drew]); omega) _ | refine Below.drew ?_ | (refine Below.trans ?_ (Below.mono (by assumption) (by (try simp only [World.size_alloc, World.size_setCell, World.size_drew]); omega))))))); (try replace own3 := Own.below own3 (w' := w2) (by (repeat (first | exact Below.refl _ _ | refine Below.alloc ?_ (by (try simp only [World.size_alloc, World.size_setCell, World.size_drew]); omega) _ | refine Below.setCell ?_ (by (try simp only [World.size_alloc, World.size_setCell, World.size_drew]); omega) _ | refine Below.drew ?_ | (refine Below.trans ?_ (Below.mono (by assumption) (by (try simp only [World.size_alloc, World.size_setCell, World.size_drew]); omega))))))); obtain ⟨w1, rfl⟩ : ∃ x, x = w2 := ⟨_, rfl⟩; (repeat (go_big_quiet_step (fail))); refine wpQuiet_nil ?_; intro w2 hw'; have hb := grew_below hw'; clear hw'; (have hc := cellX hb hall (by ((try simp only [World.size_alloc, World.size_setCell, World.size_drew]); omega))); (have hf := frozenX hb hall (by ((try simp only [World.size_alloc, World.size_setCell, World.size_drew]); omega))); (try (have hc0 := cell0 hb hall (by ((try simp only [World.size_alloc, World.size_setCell, World.size_drew]); omega)); have hf0 := frozen0 hb hall (by ((try simp only [World.size_alloc, World.size_setCell, World.size_drew]); omega)); (try (have hc1 := cell1 hb hall (by ((try simp only [World.size_alloc, World.size_setCell, World.size_drew]); omega)); have hf1 := frozen1 hb hall (by ((try simp only [World.size_alloc, World.size_setCell, World.size_drew]); omega)); (try (have hc2 := cell2 hb hall (by ((try simp only [World.size_alloc, World.size_setCell, World.size_drew]); omega)); have hf2 := frozen2 hb hall (by ((try simp only [World.size_alloc, World.size_setCell, World.size_drew]); omega)); (try (have hc3 := cell3 hb hall (by ((try simp only [World.size_alloc, World.size_setCell, World.size_drew]); omega)); have hf3 := frozen3 hb hall (by ((try simp only [World.size_alloc, World.size_setCell, World.size_drew]); omega)))))))))); have hz := hb.size; (try simp only [World.size_alloc, World.size_setCell, World.size_drew] at hz); (first | (replace hall := ext4 (w2 := w2) hall (by omega)) | (replace hall := ext3 (w2 := w2) hall (by omega)) | (replace hall := ext2 (w2 := w2) hall (by omega)) | (replace hall := ext1 (w2 := w2) hall (by omega)) | (replace hall := ext0 (w2 := w2) hall (by omega))); have hx := hall; (try simp only [allLt, and_true] at hx); (try (have hO := HO.out; replace HO := Lib.hid (Own.below hO (w' := w2) (by (repeat (first | exact Below.refl _ _ | refine Below.alloc ?_ (by (try simp only [World.size_alloc, World.size_setCell, World.size_drew]); omega) _ | refine Below.setCell ?_ (by (try simp only [World.size_alloc, World.size_setCell, World.size_drew]); omega) _ | refine Below.drew ?_ | (refine Below.trans ?_ (Below.mono (by assumption) (by (try simp only [World.size_alloc, World.size_setCell, World.size_drew]); omega))))))); clear hO)); (try replace own0 := Own.below own0 (w' := w2) (by (repeat (first | exact Below.refl _ _ | refine Below.alloc ?_ (by (try simp only [World.size_alloc, World.size_setCell, World.size_drew]); omega) _ | refine Below.setCell ?_ (by (try simp only [World.size_alloc, World.size_setCell, World.size_drew]); omega) _ | refine Below.drew ?_ | (refine Below.trans ?_ (Below.mono (by assumption) (by (try simp only [World.size_alloc, World.size_setCell, World.size_drew]); omega))))))); (try replace own1 := Own.below own1 (w' := w2) (by (repeat (first | exact Below.refl _ _ | refine Below.alloc ?_ (by (try simp only [World.size_alloc, World.size_setCell, World.size_drew]); omega) _ | refine Below.setCell ?_ (by (try simp only [World.size_alloc, World.size_setCell, World.size_drew]); omega) _ | refine Below.drew ?_ | (refine Below.trans ?_ (Below.mono (by assumption) (by (try simp only [World.size_alloc, World.size_setCell, World.size_drew]); omega))))))); (try replace own2 := Own.below own2 (w' := w2) (by (repeat (first | exact Below.refl _ _ | refine Below.alloc ?_ (by (try simp only [World.size_alloc, World.size_setCell, World.size_drew]); omega) _ | refine Below.setCell ?_ (by (try simp only [World.size_alloc, World.size_setCell, World.size_drew]); omega) _ | refine Below.drew ?_ | (refine Below.trans ?_ (Below.mono (by assumption) (by (try simp only [World.size_alloc, World.size_setCell, World.size_drew]); omega))))))); (try replace own3 := Own.below own3 (w' := w2) (by (repeat (first | exact Below.refl _ _ | refine Below.alloc ?_ (by (try simp only [World.size_alloc, World.size_setCell, World.size_drew]); omega) _ | refine Below.setCell ?_ (by (try simp only [World.size_alloc, World.size_setCell, World.size_drew]); omega) _ | refine Below.drew ?_ | (refine Below.trans ?_ (Below.mono (by assumption) (by (try simp only [World.size_alloc, World.size_setCell, World.size_drew]); omega))))))); obtain ⟨w1, rfl⟩ : ∃ x, x = w2 := ⟨_, rfl⟩))
      go_ret
      exact ⟨_, rfl, by have h0 := HO.out; rw [Nat.sub_self, List.replicate_zero, List.append_nil, List.take_of_length_le (Nat.le_of_eq HN.out.symm)] at h0; exact h0, HB.out⟩
end Go.Proofs.Ytoopdfnpfeeanaa
