/-
  Texts put together: FrameS, Spans, Group.
-/
import Derived.Test.YtmblkllijjlkoaaGreatGB43
import Derived.Test.YtmblkllijjlkoaaGreatGB6
import Derived.Deep.Slices
import Derived.Deep.Fields
import Derived.Test.YtmblkllijjlkoaaGreatGB17
import Derived.Test.YtmblkllijjlkoaaGreatGB29
/-
  Arguments of the laws that are slices: what can be read of them.
-/
set_option linter.unusedVariables false
set_option linter.unusedSimpArgs false
namespace Go.Proofs.YtmblkllijjlkoaaGreat
open Go.ChangeShapes Go.WideShapes Go.ChangeAt Go.RowKit Go.Deep
theorem addr_plain (a : Addr) (w : World) (v : Value) (h : w.cell? a = some v) : ∃ b o, a = ⟨b, o, none⟩ ∧ b < w.heap.size := by
  obtain ⟨b, o, s⟩ := a
  cases s with
  | none => exact ⟨b, o, rfl, World.block_lt_of_cell? w ⟨b, o, none⟩ h⟩
  | some s =>
    exfalso
    unfold World.cell? at h
    split at h
    · simp at h
    · simp at h
theorem addr_add (b o i : Nat) : (⟨b, o, none⟩ : Addr).add i = ⟨b, o + i, none⟩ := by unfold Addr.add; split <;> simp_all
section
variable {H : Type} {enc : TypeId × Value → H} {P : Program} {W : World} {base : Nat} {t e : TypeId} {v : Value} {d : DataW H} {p : List MemPlace}
/-- A slice of structs of one-cell fields. -/
theorem structs_open {fs : Array Field} (ht : P.underlying t = some (.slice e)) (he : P.underlying e = some (.struct fs)) (hone : oneCellFields P fs = true) (hC : P.cellsOf e = fs.size) (hpos : 0 < fs.size)
    (hok : Value.okWide P W .any base t v) (h : DataW.Trod enc P W 0 (fun _ => true) true t v d p) :
    ∃ ao n cap, v = .slice ao n cap ∧ n ≤ cap ∧ cap ≤ maxLen ∧ ∀ i, i < n → ∃ b o, ao = some ⟨b, o, none⟩ ∧ b < W.heap.size ∧
      ∀ j f, fs[j]? = some f → ∃ u m y, W.cell? ⟨b, o + (i * fs.size + j), none⟩ = some u ∧ DataW.trod enc P W 0 (fun _ => true) true m f.type [u] = some y := by
  obtain ⟨ao, len, cap, rfl⟩ := okWide_slice ht hok
  obtain ⟨fuel, hf⟩ := h
  rcases open_slice ht hf with ⟨hcs, _⟩ | ⟨a, len', cap', m, n, D, Pl, hcs, hb, hl, hm, hmm, _, hi⟩
  · simp only [Value.cells, List.cons.injEq, Value.slice.injEq, and_true] at hcs
    obtain ⟨rfl, rfl, rfl⟩ := hcs
    exact ⟨none, 0, 0, rfl, Nat.le_refl _, Nat.zero_le _, fun i hi => by omega⟩
  · simp only [Value.cells, List.cons.injEq, Value.slice.injEq, and_true] at hcs
    obtain ⟨rfl, rfl, rfl⟩ := hcs
    simp only [if_true] at hmm
    refine ⟨some a, len, cap, rfl, hl, hm, fun i hlt => ?_⟩
    have cellAt : ∀ i, i < len → ∀ j f, fs[j]? = some f → ∃ u m y, W.cell? (a.add (i * fs.size + j)) = some u ∧ DataW.trod enc P W 0 (fun _ => true) true m f.type [u] = some y := by
      intro i hlt j f hj
      obtain ⟨cs', hc, ht'⟩ := hi i (by omega)
      rw [hC] at hc
      obtain ⟨ys, n', _, _, _, hyl, hg⟩ := DataW.trod_struct he ht'
      obtain ⟨_, hcl, hat⟩ := World.cells?_some hc
      have hjl : j < fs.size := (Array.getElem?_eq_some_iff.1 hj).1
      obtain ⟨ho, hk⟩ := hone_of hone j f hj
      have h1 := hg j f hj
      rw [ho, hk, List.drop_eq_getElem_cons (by omega)] at h1
      have hys : ys[j]? = some (ys[j]'(by omega)) := List.getElem?_eq_getElem (by omega)
      refine ⟨cs'[j]'(by omega), n', _, ?_, h1.trans hys⟩
      have := hat j hjl
      rw [add_add] at this
      rw [this]
      exact List.getElem?_eq_getElem (by omega)
    have hf0 : fs[0]? = some fs[0] := Array.getElem?_eq_getElem hpos
    obtain ⟨u0, _, _, h0, _⟩ := cellAt 0 (by omega) 0 _ hf0
    rw [Nat.zero_mul] at h0
    obtain ⟨b, o, rfl, hbW⟩ := addr_plain a W _ h0
    refine ⟨b, o, rfl, hbW, fun j f hj => ?_⟩
    obtain ⟨u, m', y, hc, hy⟩ := cellAt i hlt j f hj
    rw [addr_add] at hc
    exact ⟨u, m', y, hc, hy⟩
end
end Go.Proofs.YtmblkllijjlkoaaGreat
/-
  Lists of spans: read where they lie, and made anew.
-/
set_option linter.unusedVariables false
set_option linter.unusedSimpArgs false
namespace Go.Proofs.YtmblkllijjlkoaaGreat
open Go.RowKit
structure Sp where
  p : Int
  c : Int
  b : Int
deriving DecidableEq, Inhabited
def Sp.val (s : Sp) : Value := .agg #[.int .i64 s.p, .int .i64 s.c, .int .i64 s.b]
def fSpan (s : Sp) : List Value := [.int .i64 s.p, .int .i64 s.c, .int .i64 s.b]
theorem elemSpan : ElemT Tryz.prog 47 97 (.agg #[.int .i64 0, .int .i64 0, .int .i64 0]) 3 24 := ⟨Tryz.underlying47, info_parts (by kernel_rfl), rfl, by decide⟩
theorem lenSpan : LenK 3 fSpan := fun _ => rfl
theorem oneSpan : ∀ y : Sp, ∀ u ∈ fSpan y, u.oneCell' = true := fun y u hu => by simp [fSpan] at hu; rcases hu with rfl | rfl | rfl <;> rfl
abbrev OwnSp (B : Nat) (w : World) (v : Value) (xs : List Sp) : Prop := Own 97 3 fSpan B w v xs
/-- A list of spans that can be read. -/
def SpansAt (w : World) (v : Value) (xs : List Sp) : Prop := ∃ ao cap, v = .slice ao xs.length cap ∧ xs.length ≤ cap ∧ cap ≤ maxLen ∧
  ∀ i (hi : i < xs.length), ∃ g o, ao = some ⟨g, o, none⟩ ∧ g < w.heap.size ∧ w.cell? ⟨g, o + i * 3, none⟩ = some (.int .i64 xs[i].p) ∧ w.cell? ⟨g, o + i * 3 + 1, none⟩ = some (.int .i64 xs[i].c) ∧ w.cell? ⟨g, o + i * 3 + 2, none⟩ = some (.int .i64 xs[i].b)
theorem SpansAt.below {w w' : World} {v : Value} {xs : List Sp} (h : SpansAt w v xs) (hb : Below w.heap.size w w') : SpansAt w' v xs := by
  obtain ⟨ao, cap, rfl, h1, h2, hr⟩ := h
  refine ⟨ao, cap, rfl, h1, h2, fun i hi => ?_⟩
  obtain ⟨g, o, rfl, hg, c0, c1, c2⟩ := hr i hi
  have := hb.size
  exact ⟨g, o, rfl, by omega, (hb.cell (p := ⟨g, o + i * 3, none⟩) hg).trans c0, (hb.cell (p := ⟨g, o + i * 3 + 1, none⟩) hg).trans c1, (hb.cell (p := ⟨g, o + i * 3 + 2, none⟩) hg).trans c2⟩
theorem OwnSp.at {B : Nat} {w : World} {v : Value} {xs : List Sp} (h : OwnSp B w v xs) : SpansAt w v xs := by
  obtain ⟨ao, cap, rfl, h1, h2, hr⟩ := h.read lenSpan
  refine ⟨ao, cap, rfl, h1, h2, fun i hi => ?_⟩
  obtain ⟨g, rfl, hB, hg, _, hc⟩ := hr i hi
  exact ⟨g, 0, rfl, hg, by rw [Nat.zero_add]; simpa [fSpan] using hc 0 (by omega), by rw [Nat.zero_add]; simpa [fSpan] using hc 1 (by omega), by rw [Nat.zero_add]; simpa [fSpan] using hc 2 (by omega)⟩
theorem SpansAt.open {w : World} {v : Value} {xs : List Sp} (h : SpansAt w v xs) : ∃ ao cap, v = .slice ao xs.length cap ∧ xs.length ≤ cap ∧ cap ≤ maxLen ∧
    ∀ i, i < xs.length → ∃ g o, ao = some ⟨g, o, none⟩ ∧ g < w.heap.size ∧ w.cell? ⟨g, o + i * 3, none⟩ = some (.int .i64 (xs.getD i default).p) ∧ w.cell? ⟨g, o + i * 3 + 1, none⟩ = some (.int .i64 (xs.getD i default).c) ∧ w.cell? ⟨g, o + i * 3 + 2, none⟩ = some (.int .i64 (xs.getD i default).b) := by
  obtain ⟨ao, cap, rfl, h1, h2, hr⟩ := h
  refine ⟨ao, cap, rfl, h1, h2, fun i hi => ?_⟩
  have : xs.getD i default = xs[i] := by rw [List.getD_eq_getElem?_getD, List.getElem?_eq_getElem hi, Option.getD_some]
  rw [this]
  exact hr i hi
/-- The beginning of it. -/
theorem SpansAt.take {w : World} {ao : Option Addr} {n cap : Nat} {xs : List Sp} (h : SpansAt w (.slice ao n cap) xs) (k : Nat) (hk : k ≤ xs.length) : SpansAt w (.slice ao k cap) (xs.take k) := by
  obtain ⟨ao', cap', he, h1, h2, hr⟩ := h
  simp only [Value.slice.injEq] at he
  obtain ⟨rfl, rfl, rfl⟩ := he
  have hl : (xs.take k).length = k := by simp; omega
  refine ⟨ao, cap, by rw [hl], by omega, h2, fun i hi => ?_⟩
  obtain ⟨g, o, rfl, hg, c⟩ := hr i (by omega)
  exact ⟨g, o, rfl, hg, by simpa using c⟩
theorem l_szSpanS (ao : Option Addr) (n cap : Nat) (hn : n ≤ maxLen) (left : Int) (hl : 0 ≤ left ∧ left ≤ 1048576) (w : World) : Calls Tryz.prog 9 #[.slice ao n cap, .int .i64 left] w fun e w' => e = .returned (.int .i64 (if left - n < 0 then -1 else left - n)) ∧ w = w' := by
  have hm : n ≤ 9223372036854775807 := by unfold maxLen at hn; omega
  clear hn
  by_cases h : left - n < 0
  all_goals (have hall := all_nil w; go_enter Tryz.func9, Tryz.ntmps9)
  all_goals go_wp2
  all_goals (go_ret; exact ⟨by simp [h], rfl⟩)
theorem zeroSpan : fSpan ⟨0, 0, 0⟩ = (Value.agg #[.int .i64 0, .int .i64 0, .int .i64 0]).cells.toList := by first | rfl | kernel_rfl | simp [fSpan, Value.cells]
/-- What stands at one element of it, and that it may be written. -/
theorem OwnSp.slot {B : Nat} {w : World} {g n cap : Nat} {xs : List Sp} (h : OwnSp B w (.slice (some ⟨g, 0, none⟩) n cap) xs) (j : Nat) (hj : j < xs.length) : g < w.heap.size ∧ ∃ a b c, w.cell? ⟨g, j * 3, none⟩ = some (.int .i64 a) ∧ w.cell? ⟨g, j * 3 + 1, none⟩ = some (.int .i64 b) ∧ w.cell? ⟨g, j * 3 + 2, none⟩ = some (.int .i64 c) ∧
    w.frozen? ⟨g, j * 3, none⟩ = false ∧ w.frozen? ⟨g, j * 3 + 1, none⟩ = false ∧ w.frozen? ⟨g, j * 3 + 2, none⟩ = false := by
  obtain ⟨ao', ca', he, _, _, hr⟩ := Own.read h lenSpan
  obtain ⟨g', he', _, hg', hz', hc'⟩ := hr j hj
  simp only [Value.slice.injEq] at he
  obtain ⟨rfl, _, rfl⟩ := he
  simp only [Option.some.injEq, Addr.mk.injEq, and_true] at he'
  obtain rfl := he'
  exact ⟨hg', _, _, _, by simpa [fSpan] using hc' 0 (by omega), by simpa [fSpan] using hc' 1 (by omega), by simpa [fSpan] using hc' 2 (by omega), hz' _, hz' _, hz' _⟩
theorem l_toSpanS (va : Value) (xs : List Sp) (hx : xs.length ≤ 1048576) (w : World) (ha : SpansAt w va xs) : Calls Tryz.prog 13 #[va] w fun e w' => ∃ v, e = .returned v ∧ OwnSp w.heap.size w' v xs ∧ Below w.heap.size w w' := by
  obtain ⟨ao, ca, rfl, h1, h2, hr⟩ := ha
  obtain ⟨n, hn⟩ : ∃ n, n = xs.length := ⟨_, rfl⟩
  have HN := Lib.hid hn
  rw [← hn] at hx h1
  have HA := Lib.hid hr; clear hr
  rw [← hn]
  clear hn
  (have hall := all_nil w; go_enter Tryz.func13, Tryz.ntmps13)
  go_wp2_with (at_make; go_loud (refine make1 elemSpan rfl _ _ rfl zeroSpan .i64 .i64 n rfl rfl (by omega) (by unfold maxLen; omega) ?_); intro v2 w2 hv hown hb)
  go_loopw [4] (fun i wr => ∃ j : Nat, j ≤ n ∧ i = .int .i64 j ∧ OwnSp w.heap.size wr v2 (xs.take j ++ List.replicate (n - j) ⟨0, 0, 0⟩) ∧ Below w.heap.size w wr) (fun i _ => n - (intOf i).toNat)
  case atStart => exact ⟨0, Nat.zero_le _, rfl, by simpa using hown, hb⟩
  case round =>
    obtain ⟨j, hj, rfl, hown, hbel⟩ := hrel
    have HO := Lib.hid hown; have HB := Lib.hid hbel
    have hsz := hbel.size
    clear hown hbel
    by_cases hlt : j < n
    · have hlt' : (j : Int) < n := by omega
      obtain ⟨g, o, rfl, hg, c0, c1, c2⟩ := HA.out j (by have := HN.out; omega)
      replace c0 := (HB.out.cell (p := ⟨g, o + j * 3, none⟩) hg).trans c0
      replace c1 := (HB.out.cell (p := ⟨g, o + j * 3 + 1, none⟩) hg).trans c1
      replace c2 := (HB.out.cell (p := ⟨g, o + j * 3 + 2, none⟩) hg).trans c2
      subst hv
      clear hown
      have hlen : (xs.take j ++ List.replicate (n - j) (⟨0, 0, 0⟩ : Sp)).length = n := by have := HN.out; simp; omega
      obtain ⟨hgo, e0, e1, e2, d0, d1, d2, f0, f1, f2⟩ := OwnSp.slot HO.out j (by omega)
      (obtain ⟨w1, rfl⟩ : ∃ x, x = wr := ⟨_, rfl⟩; have hall : allLt [g, w.heap.size] w1.heap.size := ⟨by omega, by omega, trivial⟩; have hx := hall; (try simp only [allLt, and_true] at hx))
      go_wp2_with ((go_at_call 52; (refine (l_toSpan _ _ _ _).mono ?_); rintro e w2 ⟨rfl, hb⟩; ((have hn := nw0 hb hall (by exact zo))); obtain ⟨hc, hf, hn, hc0⟩ := hn; replace hall := hn; clear hn; have hz := hb.size; (try simp only [World.size_alloc, World.size_setCell, World.size_drew] at hz); have hx := hall; (try simp only [allLt, and_true] at hx); (try (have hO := HO.out; replace HO := Lib.hid (Own.below hO (w' := w2) (by exact bel)); clear hO)); obtain ⟨w1, rfl⟩ : ∃ x, x = w2 := ⟨_, rfl⟩))
      go_roundw
      case rel =>
        have S := Own.setk lenSpan HO.out rfl j (by omega) (xs[j]'(by have := HN.out; omega))
        rw [mix_set _ _ HN.out (by have := HN.out; omega)] at S
        have hB := HB.out
        exact ⟨j + 1, by omega, by go_num, S.1, by exact bel⟩
      case measure => simp [intOf]; omega
    · have hlt' : ¬ (j : Int) < n := by omega
      obtain rfl : j = n := by omega
      subst hv
      clear hown
      go_wp2_with (fail)
      go_ret
      exact ⟨_, rfl, by have h0 := HO.out; rw [Nat.sub_self, List.replicate_zero, List.append_nil, List.take_of_length_le (Nat.le_of_eq HN.out.symm)] at h0; exact h0, HB.out⟩
end Go.Proofs.YtmblkllijjlkoaaGreat
/-
  Functions on lists of spans: pairs that can be meshed, groups.
-/
set_option linter.unusedVariables false
set_option linter.unusedSimpArgs false
namespace Go.Proofs.YtmblkllijjlkoaaGreat
open Go.RowKit
theorem l_eqSpanS (va vb : Value) (xs : List Sp) (w : World) (ha : SpansAt w va xs) (hb : SpansAt w vb xs) : Calls Tryz.prog 17 #[va, vb] w fun e w' => e = .returned (.bool true) ∧ Below w.heap.size w w' := by
  obtain ⟨ao, ca, rfl, _, hm, hra⟩ := ha
  obtain ⟨bo, cb, rfl, _, _, hrb⟩ := hb
  have hle : xs.length ≤ 9223372036854775807 := by unfold maxLen at hm; omega
  clear hm
  have HA := Lib.hid hra; have HB := Lib.hid hrb; clear hra hrb
  (have hall := all_nil w; go_enter Tryz.func17, Tryz.ntmps17)
  go_wp2_with (fail)
  go_loopw [5] (fun i wr => ∃ j : Nat, j ≤ xs.length ∧ i = .int .i64 j ∧ Below w.heap.size w wr) (fun i _ => xs.length - (intOf i).toNat)
  case atStart => exact ⟨0, Nat.zero_le _, rfl, Below.refl _ _⟩
  case round =>
    obtain ⟨j, hj, rfl, hbel⟩ := hrel
    have HL := Lib.hid hbel; have hsz := hbel.size; clear hbel
    by_cases hlt : j < xs.length
    · have hlt' : (j : Int) < xs.length := by omega
      obtain ⟨ga, oa, rfl, hga, a0, a1, a2⟩ := HA.out j hlt
      obtain ⟨gb, ob, rfl, hgb, b0, b1, b2⟩ := HB.out j hlt
      replace a0 := (HL.out.cell (p := ⟨ga, oa + j * 3, none⟩) hga).trans a0
      replace a1 := (HL.out.cell (p := ⟨ga, oa + j * 3 + 1, none⟩) hga).trans a1
      replace a2 := (HL.out.cell (p := ⟨ga, oa + j * 3 + 2, none⟩) hga).trans a2
      replace b0 := (HL.out.cell (p := ⟨gb, ob + j * 3, none⟩) hgb).trans b0
      replace b1 := (HL.out.cell (p := ⟨gb, ob + j * 3 + 1, none⟩) hgb).trans b1
      replace b2 := (HL.out.cell (p := ⟨gb, ob + j * 3 + 2, none⟩) hgb).trans b2
      generalize xs[j].p = p at *
      generalize xs[j].c = c at *
      generalize xs[j].b = b at *
      (obtain ⟨w1, rfl⟩ : ∃ x, x = wr := ⟨_, rfl⟩; have hall : allLt [ga, gb] w1.heap.size := ⟨by omega, by omega, trivial⟩; have hx := hall; (try simp only [allLt, and_true] at hx))
      go_wp2_with ((with_reducible refine wp_region_grew2 (by kernel_rfl) (by kernel_rfl) ?_; intro w2 hb; ((have hn := nw0 hb hall (by exact zo))); obtain ⟨hc, hf, hn, hc0⟩ := hn; replace hall := hn; clear hn; have hz := hb.size; (try simp only [World.size_alloc, World.size_setCell, World.size_drew] at hz); have hx := hall; (try simp only [allLt, and_true] at hx); obtain ⟨w1, rfl⟩ : ∃ x, x = w2 := ⟨_, rfl⟩; (repeat (go_big_quiet_step ((go_at_call 58; exact calls_grew (l_eqSpan _ _ _ _))))); refine wpQuiet_nil ?_; intro w2 hw'; have hb := grew_below hw'; clear hw'; ((have hn := nw0 hb hall (by exact zo))); obtain ⟨hc, hf, hn, hc0⟩ := hn; replace hall := hn; clear hn; have hz := hb.size; (try simp only [World.size_alloc, World.size_setCell, World.size_drew] at hz); have hx := hall; (try simp only [allLt, and_true] at hx); obtain ⟨w1, rfl⟩ : ∃ x, x = w2 := ⟨_, rfl⟩))
      go_roundw
      case rel =>
        have hL := HL.out
        exact ⟨j + 1, by omega, by go_num, by exact bel⟩
      case measure => simp [intOf]; omega
    · have hlt' : ¬ (j : Int) < xs.length := by omega
      go_wp2_with (fail)
      go_ret
      exact ⟨rfl, HL.out⟩
def meshS (a b : Sp) : Bool := meshable a.p a.c a.b b.p b.c b.b
theorem bits_and_comm (x y : Int) : bits .and .i64 x y = bits .and .i64 y x := by unfold bits; simp [BitVec.and_comm]
theorem meshS_comm (a b : Sp) : meshS a b = meshS b a := by
  unfold meshS meshable
  rw [bits_and_comm, Bool.beq_comm (a := a.c), show (a.p != b.p) = (b.p != a.p) by simp [bne, Bool.beq_comm]]
  cases spanOk a.p a.c a.b <;> cases spanOk b.p b.c b.b <;> simp
/-- The k spans ahead of span i can be meshed with it. -/
def gRow (xs : List Sp) (i : Nat) : Nat → Bool
  | 0 => true
  | k + 1 => gRow xs i k && meshS (xs.getD k default) (xs.getD i default)
def gTo (xs : List Sp) : Nat → Bool
  | 0 => true
  | i + 1 => gTo xs i && gRow xs i i
def groupOk (xs : List Sp) : Bool := gTo xs xs.length && (decide (0 < (xs.length : Int)) && spanOk (xs.getD 0 default).p (xs.getD 0 default).c (xs.getD 0 default).b)
theorem gRow_false {xs : List Sp} {i k m : Nat} (hk : k ≤ m) (h : gRow xs i k = false) : gRow xs i m = false := by
  induction hk with
  | refl => exact h
  | step _ ih => simp [gRow, ih]
theorem gTo_false {xs : List Sp} {k m : Nat} (hk : k ≤ m) (h : gTo xs k = false) : gTo xs m = false := by
  induction hk with
  | refl => exact h
  | step _ ih => simp [gTo, ih]
theorem groupOk_not {xs : List Sp} {i k : Nat} (hk : k < i) (hi : i < xs.length) (h : meshS (xs.getD k default) (xs.getD i default) = false) : groupOk xs = false := by
  have h1 : gRow xs i (k + 1) = false := by rw [gRow, h, Bool.and_false]
  have h2 := gRow_false (m := i) (by omega) h1
  have h3 : gTo xs (i + 1) = false := by simp [gTo, h2]
  have h4 := gTo_false (m := xs.length) (by omega) h3
  simp [groupOk, h4]
/-- How many of the k spans ahead of span i can be meshed with it. -/
def eRow (xs : List Sp) (i : Nat) : Nat → Int
  | 0 => 0
  | k + 1 => eRow xs i k + if meshS (xs.getD k default) (xs.getD i default) then 1 else 0
def eTo (xs : List Sp) : Nat → Int
  | 0 => 0
  | i + 1 => eTo xs i + eRow xs i i
theorem eRow_le (xs : List Sp) (i : Nat) : ∀ k, 0 ≤ eRow xs i k ∧ eRow xs i k ≤ k
  | 0 => ⟨Int.le_refl _, Int.le_refl _⟩
  | k + 1 => by have := eRow_le xs i k; simp only [eRow]; split <;> omega
theorem eTo_le (xs : List Sp) : ∀ k, k ≤ 1048576 → 0 ≤ eTo xs k ∧ eTo xs k ≤ k * 1048576
  | 0, _ => ⟨Int.le_refl _, Int.le_refl _⟩
  | k + 1, h => by have := eTo_le xs k (by omega); have := eRow_le xs k k; simp only [eTo]; omega
end Go.Proofs.YtmblkllijjlkoaaGreat
