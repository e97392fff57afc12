/-
  Texts put together: Draw, Draw2, Spans, Draw3.
-/
import Derived.Test.YtkkebpcclklmcaaGB4
import Derived.Test.YtkkebpcclklmcaaGB2
import Derived.Test.YtkkebpcclklmcaaGB9
/-
  The draws: what is needed of the cursor over the bytes of a draw is that it stays one, and that its numbers lie where they should.
-/
set_option linter.unusedVariables false
set_option linter.unusedSimpArgs false
namespace Go.Proofs.Ytkkebpcclklmcaa
open Go.RowKit

/-- A slice of n bytes, below block B. -/
def BytesAt (B : Nat) (w : World) (v : Value) (n : Nat) : Prop :=
  ∃ ao cap, v = .slice ao n cap ∧ n ≤ 9223372036854775807 ∧ ∀ j, j < n → ∃ b o x, ao = some ⟨b, o, none⟩ ∧ b < B ∧ w.cell? ⟨b, o + j, none⟩ = some (.int .u8 x) ∧ 0 ≤ x ∧ x ≤ 255
/-- Block g is a cursor; what it reads lies below block B. -/
def Cur (B : Nat) (w : World) (g : Nat) : Prop :=
  B ≤ g ∧ g < w.heap.size ∧ ∃ v n h, ∃ i : Nat, w.cell? ⟨g, 0, none⟩ = some v ∧ w.cell? ⟨g, 1, none⟩ = some (.int .i64 i) ∧ w.cell? ⟨g, 2, none⟩ = some (.int .i64 h) ∧ w.frozen? ⟨g, 1, none⟩ = false ∧ w.frozen? ⟨g, 2, none⟩ = false ∧ i ≤ n ∧ BytesAt B w v n
theorem BytesAt.stays {B : Nat} {w w' : World} {v : Value} {n : Nat} (h : BytesAt B w v n) (hs : ∀ k, k < B → w'.heap[k]? = w.heap[k]?) : BytesAt B w' v n := by
  obtain ⟨ao, cap, rfl, hn, hj⟩ := h
  refine ⟨ao, cap, rfl, hn, fun j hlt => ?_⟩
  obtain ⟨b, o, x, h1, h2, h3, h4⟩ := hj j hlt
  exact ⟨b, o, x, h1, h2, (World.cell?_of_block (w := w) (hs b h2)).trans h3, h4⟩
theorem Cur.lt {B : Nat} {w : World} {g : Nat} (h : Cur B w g) : g < w.heap.size := h.2.1
theorem Cur.stays {B : Nat} {w w' : World} {g : Nat} (h : Cur B w g) (hsz : w.heap.size ≤ w'.heap.size) (hs : ∀ k, k < B ∨ k = g → w'.heap[k]? = w.heap[k]?) : Cur B w' g := by
  obtain ⟨h1, h2, v, n, h, i, c0, c1, c2, f1, f2, hi, hb⟩ := h
  have hc : ∀ o, w'.cell? ⟨g, o, none⟩ = w.cell? ⟨g, o, none⟩ := fun o => World.cell?_of_block (w := w) (hs g (.inr rfl))
  have hf : ∀ o, w'.frozen? ⟨g, o, none⟩ = w.frozen? ⟨g, o, none⟩ := fun o => World.frozen?_of_block (w := w) (hs g (.inr rfl))
  exact ⟨h1, by omega, v, n, h, i, (hc 0).trans c0, (hc 1).trans c1, (hc 2).trans c2, (hf 1).trans f1, (hf 2).trans f2, hi, hb.stays fun k hk => hs k (.inl hk)⟩
theorem Cur.below {B : Nat} {w w' : World} {g : Nat} (h : Cur B w g) (hb : Below w.heap.size w w') : Cur B w' g :=
  h.stays hb.size fun k hk => hb.block k (by have h1 := h.1; have h2 := h.2.1; omega)
/-- What a call on a cursor leaves: a number, the cursor, and nothing else turned. -/
def Drawn (B : Nat) (w : World) (g : Nat) (P : Int → Prop) (e : Ending) (w' : World) : Prop := ∃ x, P x ∧ e = .returned (.int .i64 x) ∧ Cur B w' g ∧ w.grownBy w' (some g)
theorem and255 (n : Int) : bits .and .i64 n 255 = n % 256 := by
  have h255 : (BitVec.ofInt 64 255).toNat = 2 ^ 8 - 1 := by decide
  have key : (BitVec.ofInt 64 n &&& BitVec.ofInt 64 255).toNat = (n % ((2 ^ 64 : Nat) : Int)).toNat % 2 ^ 8 := by
    rw [BitVec.toNat_and, BitVec.toNat_ofInt, h255, Nat.and_two_pow_sub_one_eq_mod]
  show IntKind.i64.wrap ((BitVec.ofInt 64 n &&& BitVec.ofInt 64 255).toNat : Nat) = n % 256
  rw [key, IntKind.wrap_i64]
  omega
theorem and255_in (n : Int) : 0 ≤ bits .and .i64 n 255 ∧ bits .and .i64 n 255 ≤ 255 := by rw [and255]; omega
/-- The cursor behind some steps that have turned its own block alone. -/
theorem cur_of {B g : Nat} {w w' : World} {ao : Option Addr} {n cap i : Nat} {h : Int} (hBg : B ≤ g) (hg : g < w.heap.size) (hgr : w.grownBy w' (some g)) (hb : BytesAt B w (.slice ao n cap) n) (hi : i ≤ n) (c0 : w'.cell? ⟨g, 0, none⟩ = some (.slice ao n cap)) (c1 : w'.cell? ⟨g, 1, none⟩ = some (.int .i64 i)) (c2 : w'.cell? ⟨g, 2, none⟩ = some (.int .i64 h))
    (f1 : w'.frozen? ⟨g, 1, none⟩ = false) (f2 : w'.frozen? ⟨g, 2, none⟩ = false) : Cur B w' g :=
  ⟨hBg, Nat.lt_of_lt_of_le hg hgr.size, _, n, h, i, c0, c1, c2, f1, f2, hi, hb.stays fun k hk => hgr.block k (by omega) (by simp; omega)⟩

theorem s_l01Byte (B g : Nat) (w : World) (hcur : Cur B w g) : Calls Try.prog 64 #[.pointer (some ⟨g, 0, none⟩)] w (Drawn B w g fun x => 0 ≤ x ∧ x ≤ 255) := by
  obtain ⟨hBg, hg, v, n, h, i, c0, c1, c2, f1, f2, hi, hbytes⟩ := hcur
  obtain ⟨ao, cap, rfl, hn, hbs⟩ := hbytes
  have HB : Hid (BytesAt B w (.slice ao n cap) n) := ⟨ao, cap, rfl, hn, hbs⟩
  have hall : allLt [g] w.heap.size := ⟨hg, trivial⟩
  have hx := hall
  simp only [allLt, and_true] at hx
  by_cases hlt : i < n
  · obtain ⟨b, o, x, rfl, hbB, hbc, hx0, hx1⟩ := hbs i hlt
    clear hbs
    have hne : ¬ g = b := by omega
    have hlt' : (i : Int) < n := by omega
    have hbz : b < w.heap.size := by omega
    replace hall : allLt [g, b] w.heap.size := ⟨hg, hbz, trivial⟩
    go_enter Try.func64, Try.ntmps64
    go_wp2_with ((with_reducible refine wp_region_grew2 (by kernel_rfl) (by kernel_rfl) ?_; intro w2 hb; ((have hn := nw0 hb hall (by exact zo))); obtain ⟨hc, hf, hn, hc0⟩ := hn; replace hall := hn; clear hn; have hz := hb.size; (try simp only [World.size_alloc, World.size_setCell, World.size_drew] at hz); have hx := hall; (try simp only [allLt, and_true] at hx); obtain ⟨w1, rfl⟩ : ∃ x, x = w2 := ⟨_, rfl⟩; (repeat (go_big_quiet_step (fail))); refine wpQuiet_nil ?_; intro w2 hw'; have hb := grew_below hw'; clear hw'; ((have hn := nw0 hb hall (by exact zo))); obtain ⟨hc, hf, hn, hc0⟩ := hn; replace hall := hn; clear hn; have hz := hb.size; (try simp only [World.size_alloc, World.size_setCell, World.size_drew] at hz); have hx := hall; (try simp only [allLt, and_true] at hx); obtain ⟨w1, rfl⟩ : ∃ x, x = w2 := ⟨_, rfl⟩))
    all_goals (go_ret; refine ⟨_, and255_in _, rfl, ?_⟩)
    all_goals refine (fun hgr => ⟨cur_of (i := i + 1) (h := wrap64 (wrap64 (h * 6364136223846793005) + 1442695040888963407)) hBg hg hgr HB.out (by omega) ?_ ?_ ?_ ?_ ?_, hgr⟩) (by (repeat (first | exact grown_refl _ _ | refine grown_setCell ?_ _ _ | refine grown_below ?_ (by assumption))))
    all_goals first | (go_simp; done) | (go_simp; go_num)
  · have hlt' : ¬ (i : Int) < n := by omega
    clear hbs
    go_enter Try.func64, Try.ntmps64
    go_wp2_with ((with_reducible refine wp_region_grew2 (by kernel_rfl) (by kernel_rfl) ?_; intro w2 hb; ((have hn := nw0 hb hall (by exact zo))); obtain ⟨hc, hf, hn, hc0⟩ := hn; replace hall := hn; clear hn; have hz := hb.size; (try simp only [World.size_alloc, World.size_setCell, World.size_drew] at hz); have hx := hall; (try simp only [allLt, and_true] at hx); obtain ⟨w1, rfl⟩ : ∃ x, x = w2 := ⟨_, rfl⟩; (repeat (go_big_quiet_step (fail))); refine wpQuiet_nil ?_; intro w2 hw'; have hb := grew_below hw'; clear hw'; ((have hn := nw0 hb hall (by exact zo))); obtain ⟨hc, hf, hn, hc0⟩ := hn; replace hall := hn; clear hn; have hz := hb.size; (try simp only [World.size_alloc, World.size_setCell, World.size_drew] at hz); have hx := hall; (try simp only [allLt, and_true] at hx); obtain ⟨w1, rfl⟩ : ∃ x, x = w2 := ⟨_, rfl⟩))
    all_goals (go_ret; refine ⟨_, and255_in _, rfl, ?_⟩)
    all_goals refine (fun hgr => ⟨cur_of (i := i) (h := wrap64 (wrap64 (h * 6364136223846793005) + 1442695040888963407)) hBg hg hgr HB.out (by omega) ?_ ?_ ?_ ?_ ?_, hgr⟩) (by (repeat (first | exact grown_refl _ _ | refine grown_setCell ?_ _ _ | refine grown_below ?_ (by assumption))))
    all_goals first | (go_simp; done) | (go_simp; go_num)
def InBelow (n x : Int) : Prop := 0 ≤ x ∧ (0 < n → x < n) ∧ (n ≤ 0 → x = 0)
theorem mod_in {x n : Int} (h0 : 0 ≤ x) (hx : x ≤ 9223372036854775807) (hn : 0 < n) : wrap64 (x % n) = x % n ∧ InBelow n (x % n) := by
  have h1 := Int.emod_nonneg x (show n ≠ 0 by omega)
  have h2 := Int.emod_lt_of_pos x hn
  have h3 : x % n ≤ x := by
    rcases Int.lt_or_le x n with h | h
    · rw [Int.emod_eq_of_lt h0 h]; omega
    · omega
  exact ⟨IntWalk.wrap64_in _ ⟨by omega, by omega⟩, h1, fun _ => h2, fun h => by omega⟩
theorem s_l01Below (B g : Nat) (n : Int) (w : World) (hcur : Cur B w g) : Calls Try.prog 34 #[.pointer (some ⟨g, 0, none⟩), .int .i64 n] w (Drawn B w g (InBelow n)) := by
  by_cases h1 : n ≤ 0
  · go_enter Try.func34, Try.ntmps34
    go_wp2_with (go_at_call 64; refine (s_l01Byte B g _ hcur).mono ?_; rintro e w2 ⟨x, hx, rfl, hcur, hgr⟩)
    go_ret
    exact ⟨0, ⟨Int.le_refl _, fun h => by omega, fun _ => rfl⟩, rfl, hcur, grown_refl _ _⟩
  · by_cases h2 : n ≤ 256
    · go_enter Try.func34, Try.ntmps34
      go_wp2_with fail
      refine (s_l01Byte B g _ hcur).mono ?_; rintro e wa ⟨x, hx, rfl, hcur1, hgr1⟩
      have HM := Lib.hid (mod_in (x := x) (n := n) (by omega) (by omega) (by omega))
      have HG := Lib.hid hgr1
      clear hgr1 hcur
      go_wp2_with fail
      go_ret
      exact ⟨_, HM.out.2, by simp [HM.out.1], hcur1, HG.out⟩
    · go_enter Try.func34, Try.ntmps34
      go_wp2_with fail
      refine (s_l01Byte B g _ hcur).mono ?_; rintro e wa ⟨x1, hx1, rfl, hcur1, hgr1⟩
      go_wp2_with fail
      refine (s_l01Byte B g _ hcur1).mono ?_; rintro e wb ⟨x2, hx2, rfl, hcur2, hgr2⟩
      go_wp2_with fail
      refine (s_l01Byte B g _ hcur2).mono ?_; rintro e wc ⟨x3, hx3, rfl, hcur3, hgr3⟩
      go_wp2_with fail
      refine (s_l01Byte B g _ hcur3).mono ?_; rintro e wd ⟨x4, hx4, rfl, hcur4, hgr4⟩
      have HG : Hid (w.grownBy wd (some g)) := grown_trans (grown_trans (grown_trans hgr1 hgr2) hgr3) hgr4
      clear hgr1 hgr2 hgr3 hgr4 hcur hcur1 hcur2 hcur3
      have M := mod_in (x := x1 * 16777216 + x2 * 65536 + x3 * 256 + x4) (by omega) (by omega) (show 0 < n by omega)
      have HM := Lib.hid M; clear M
      go_wp2_with fail
      go_ret
      exact ⟨_, HM.out.2, by simp [HM.out.1], hcur4, HG.out⟩
def NewCur (w : World) (e : Ending) (w' : World) : Prop := ∃ g, e = .returned (.pointer (some ⟨g, 0, none⟩)) ∧ Cur w.heap.size w' g ∧ Below w.heap.size w w'
theorem s_l01New (v : Value) (n : Nat) (w : World) (hv : BytesAt w.heap.size w v n) : Calls Try.prog 33 #[v] w (NewCur w) := by
  have HV := Lib.hid hv
  obtain ⟨ao, cap, rfl, hn, hb⟩ := hv
  have hall := all_nil w
  go_enter Try.func33, Try.ntmps33
  go_wp2_with (fail)
  go_loop [3, 4] (fun h i => ∃ k : Nat, ∃ h' : Int, k ≤ n ∧ i = .int .i64 k ∧ h = .int .i64 h') (fun _ i => n - (intOf i).toNat)
  case atStart => exact ⟨0, _, Nat.zero_le _, rfl, rfl⟩
  case round =>
    obtain ⟨k, h, hk, rfl, rfl⟩ := hrel
    have fin : ∀ (h : Int), NewCur w (.returned (.pointer (some ⟨w.heap.size, 0, none⟩))) (w.alloc (.cells #[.slice ao n cap, .int .i64 0, .int .i64 h] 102)) := fun h =>
      have hb : Below w.heap.size w (w.alloc (.cells #[.slice ao n cap, .int .i64 0, .int .i64 h] 102)) := (Below.refl _ _).alloc (Nat.le_refl _) _
      ⟨w.heap.size, rfl, ⟨Nat.le_refl _, by simp, .slice ao n cap, n, h, 0, by go_simp, by go_simp, by go_simp, by go_simp, by go_simp, Nat.zero_le _, HV.out.stays fun i hi => hb.block i hi⟩, hb⟩
    have HF := Lib.hid fin; clear fin
    by_cases hlt : k < n
    · obtain ⟨b, o, x, rfl, _, hbc, hx0, hx1⟩ := hb k hlt
      clear hb
      have hlt' : (k : Int) < n := by omega
      by_cases h4 : k < 4000
      · have h4' : (k : Int) < 4000 := by omega
        go_wp2_with (fail)
        go_round
        case rel => exact ⟨k + 1, _, by omega, by go_num, rfl⟩
        case measure => simp [intOf]; omega
      · have h4' : ¬ (k : Int) < 4000 := by omega
        go_wp2_with (fail)
        go_ret
        exact HF.out _
    · have hlt' : ¬ (k : Int) < n := by omega
      clear hb
      go_wp2_with (fail)
      go_ret
      exact HF.out _
end Go.Proofs.Ytkkebpcclklmcaa
/-
  Lists of ints of the call's own; the twelve places of a draw.
-/
set_option linter.unusedVariables false
set_option linter.unusedSimpArgs false
namespace Go.Proofs.Ytkkebpcclklmcaa
open Go.RowKit
def Places (w : World) (e : Ending) (w' : World) : Prop := ∃ v xs, e = .returned v ∧ OwnI w.heap.size w' v xs ∧ xs.length = 12 ∧ (∀ x ∈ xs, 0 ≤ x ∧ x ≤ 9999) ∧ Below w.heap.size w w'
theorem s_DrawPlaces (v : Value) (n : Nat) (w : World) (hv : BytesAt w.heap.size w v n) : Calls Try.prog 10 #[v] w (Places w) := by
  have hall := all_nil w
  have HV := Lib.hid hv; clear hv
  go_enter Try.func10, Try.ntmps10
  go_wp2_with fail
  refine (s_l01New _ n _ HV.out).mono ?_; rintro e w0 ⟨g, rfl, hcur, hb0⟩
  go_wp2_with fail
  have hcur0 : Cur w.heap.size (w0.alloc (.cells #[] 3)) g := hcur.below ((Below.refl _ _).alloc (Nat.le_refl _) _)
  have hg := hcur.1
  go_loopw [4, 5] (fun o i wr => ∃ k : Nat, ∃ xs, k ≤ 12 ∧ i = .int .i64 k ∧ xs.length = k ∧ (∀ x ∈ xs, 0 ≤ x ∧ x ≤ 9999) ∧ OwnI (g + 1) wr o xs ∧ Cur w.heap.size wr g ∧ Below w.heap.size w wr) (fun _ i _ => 12 - (intOf i).toNat)
  case atStart =>
    refine ⟨0, [], Nat.zero_le _, rfl, rfl, (by simp), ?_, hcur0, ?_⟩
    · exact Own.empty _ _ _ _ _ hcur.2.1
    · exact hb0.alloc hb0.size _
  case round =>
    obtain ⟨k, xs, hk, rfl, hxl, hxs, hown, hcr, hbr⟩ := hrel
    have HX := Lib.hid hxs; have HL := Lib.hid hxl; clear hxs hxl hcur hcur0 hb0
    obtain ⟨wo, rfl⟩ : ∃ wo : World, wo = wr := ⟨_, rfl⟩
    by_cases hlt : k < 12
    · go_wp2_with fail
      refine (s_l01Below _ g _ _ hcr).mono ?_; rintro e w2 ⟨x, hx, rfl, hcur2, hgr⟩
      have hx' := hx.2.1 (by omega)
      have hx0 := hx.1
      clear hx
      have hown2 : OwnI (g + 1) w2 u4 xs := hown.kept fun b hb => hgr.block b (hown.lt b hb).2 (by have := (hown.lt b hb).1; simp; omega)
      have hb2 : Below w.heap.size w w2 := hbr.trans (below_of_grown hgr hg (by have := hbr.size; omega))
      go_wp2_with (at_builtin; refine append1 elemInt rfl _ _ rfl lenInt oneInt rfl (hown2.alloc _) ?hB rfl x (intCell _ _) ?hlen ?_)
      case hB => simp only [World.size_alloc]; have := hcur2.lt; omega
      case hlen => rw [HL.out]; unfold maxLen; omega
      intro v' w' hown' hgr' hbel
      have hcur' : Cur w.heap.size w' g := (hcur2.below ((Below.refl _ _).alloc (Nat.le_refl _) _)).stays hbel.size (fun b hb => hbel.block b (by omega))
      have hb' : Below w.heap.size w w' := (hb2.alloc hb2.size _).trans (hbel.mono (by omega))
      clear hgr' hbel hown hown2 hcur2 hgr hbr hb2 hcr
      go_wp2_with fail
      go_roundw
      case rel => exact ⟨k + 1, xs ++ [x], by omega, by go_num, by rw [List.length_append, HL.out]; rfl, fun y hy => by
        rcases List.mem_append.1 hy with h | h
        · exact HX.out y h
        · simp at h; subst h; omega, hown', hcur', hb'⟩
      case measure => simp [intOf]; omega
    · obtain rfl : k = 12 := by omega
      go_wp2_with fail
      go_ret
      exact ⟨_, xs, rfl, hown.mono (by omega), HL.out, HX.out, hbr⟩
/-- The twelve places, as the walk reads them. -/
theorem places_at {B : Nat} {w : World} {v : Value} {xs : List Int} (h : OwnI B w v xs) (hl : xs.length = 12) : ∃ g cap, v = .slice (some ⟨g, 0, none⟩) 12 cap ∧ B ≤ g ∧ g < w.heap.size ∧ ∀ i, i < 12 → w.cell? ⟨g, i, none⟩ = some (.int .i64 (xs.getD i 0)) := by
  obtain ⟨ao, cap, rfl, hc, hm, hr⟩ := h.read lenInt
  obtain ⟨g, rfl, hB, hg, _, _⟩ := hr 0 (by omega)
  refine ⟨g, cap, by rw [hl], hB, hg, fun i hi => ?_⟩
  obtain ⟨g', hg', _, _, _, hcell⟩ := hr i (by omega)
  simp only [Option.some.injEq, Addr.mk.injEq, and_true] at hg'
  subst hg'
  have := hcell 0 (by omega)
  simp only [Nat.mul_one, Nat.add_zero, fInt, List.getElem?_cons_zero] at this
  rw [this, List.getD_eq_getElem?_getD, List.getElem?_eq_getElem (by omega), Option.getD_some]
theorem places_in {xs : List Int} (hl : xs.length = 12) (h : ∀ x ∈ xs, 0 ≤ x ∧ x ≤ 9999) (i : Nat) (hi : i < 12) : 0 ≤ xs.getD i 0 ∧ xs.getD i 0 ≤ 9999 := by
  rw [List.getD_eq_getElem?_getD, List.getElem?_eq_getElem (by omega), Option.getD_some]
  exact h _ (List.getElem_mem _)
end Go.Proofs.Ytkkebpcclklmcaa
/-
  Lists of spans: read where they lie, and made anew.
-/
set_option linter.unusedVariables false
set_option linter.unusedSimpArgs false
namespace Go.Proofs.Ytkkebpcclklmcaa
open Go.RowKit
structure Sp where
  p : Int
  c : Int
  b : Int
deriving DecidableEq, Inhabited
def Sp.val (s : Sp) : Value := .agg #[.int .i64 s.p, .int .i64 s.c, .int .i64 s.b]
def fSpan (s : Sp) : List Value := [.int .i64 s.p, .int .i64 s.c, .int .i64 s.b]
theorem lenSpan : LenK 3 fSpan := fun _ => rfl
theorem oneSpan : ∀ y : Sp, ∀ u ∈ fSpan y, u.oneCell' = true := fun y u hu => by simp [fSpan] at hu; rcases hu with rfl | rfl | rfl <;> rfl
/-- A list of spans that can be read. -/
def SpansAt (w : World) (v : Value) (xs : List Sp) : Prop := ∃ ao cap, v = .slice ao xs.length cap ∧ xs.length ≤ cap ∧ cap ≤ maxLen ∧
  ∀ i (hi : i < xs.length), ∃ g o, ao = some ⟨g, o, none⟩ ∧ g < w.heap.size ∧ w.cell? ⟨g, o + i * 3, none⟩ = some (.int .i64 xs[i].p) ∧ w.cell? ⟨g, o + i * 3 + 1, none⟩ = some (.int .i64 xs[i].c) ∧ w.cell? ⟨g, o + i * 3 + 2, none⟩ = some (.int .i64 xs[i].b)
theorem SpansAt.below {w w' : World} {v : Value} {xs : List Sp} (h : SpansAt w v xs) (hb : Below w.heap.size w w') : SpansAt w' v xs := by
  obtain ⟨ao, cap, rfl, h1, h2, hr⟩ := h
  refine ⟨ao, cap, rfl, h1, h2, fun i hi => ?_⟩
  obtain ⟨g, o, rfl, hg, c0, c1, c2⟩ := hr i hi
  have := hb.size
  exact ⟨g, o, rfl, by omega, (hb.cell (p := ⟨g, o + i * 3, none⟩) hg).trans c0, (hb.cell (p := ⟨g, o + i * 3 + 1, none⟩) hg).trans c1, (hb.cell (p := ⟨g, o + i * 3 + 2, none⟩) hg).trans c2⟩
theorem SpansAt.open {w : World} {v : Value} {xs : List Sp} (h : SpansAt w v xs) : ∃ ao cap, v = .slice ao xs.length cap ∧ xs.length ≤ cap ∧ cap ≤ maxLen ∧
    ∀ i, i < xs.length → ∃ g o, ao = some ⟨g, o, none⟩ ∧ g < w.heap.size ∧ w.cell? ⟨g, o + i * 3, none⟩ = some (.int .i64 (xs.getD i default).p) ∧ w.cell? ⟨g, o + i * 3 + 1, none⟩ = some (.int .i64 (xs.getD i default).c) ∧ w.cell? ⟨g, o + i * 3 + 2, none⟩ = some (.int .i64 (xs.getD i default).b) := by
  obtain ⟨ao, cap, rfl, h1, h2, hr⟩ := h
  refine ⟨ao, cap, rfl, h1, h2, fun i hi => ?_⟩
  have : xs.getD i default = xs[i] := by rw [List.getD_eq_getElem?_getD, List.getElem?_eq_getElem hi, Option.getD_some]
  rw [this]
  exact hr i hi
/-- The beginning of it. -/
theorem SpansAt.take {w : World} {ao : Option Addr} {n cap : Nat} {xs : List Sp} (h : SpansAt w (.slice ao n cap) xs) (k : Nat) (hk : k ≤ xs.length) : SpansAt w (.slice ao k cap) (xs.take k) := by
  obtain ⟨ao', cap', he, h1, h2, hr⟩ := h
  simp only [Value.slice.injEq] at he
  obtain ⟨rfl, rfl, rfl⟩ := he
  have hl : (xs.take k).length = k := by simp; omega
  refine ⟨ao, cap, by rw [hl], by omega, h2, fun i hi => ?_⟩
  obtain ⟨g, o, rfl, hg, c⟩ := hr i (by omega)
  exact ⟨g, o, rfl, hg, by simpa using c⟩
theorem zeroSpan : fSpan ⟨0, 0, 0⟩ = (Value.agg #[.int .i64 0, .int .i64 0, .int .i64 0]).cells.toList := by first | rfl | kernel_rfl | simp [fSpan, Value.cells]
end Go.Proofs.Ytkkebpcclklmcaa
/-
  Spans that are drawn.
-/
set_option linter.unusedVariables false
set_option linter.unusedSimpArgs false
namespace Go.Proofs.Ytkkebpcclklmcaa
open Go.RowKit
/-- A call on a cursor that hands back a Bool. -/
def DrawnB (B : Nat) (w : World) (g : Nat) (e : Ending) (w' : World) : Prop := ∃ b, e = .returned (.bool b) ∧ Cur B w' g ∧ w.grownBy w' (some g)
theorem s_l01Once (B g : Nat) (n : Int) (w : World) (hcur : Cur B w g) : Calls Try.prog 62 #[.pointer (some ⟨g, 0, none⟩), .int .i64 n] w (DrawnB B w g) := by
  (have hall := all_nil w; go_enter Try.func62, Try.ntmps62)
  go_wp2_with fail
  refine (s_l01Below B g n _ hcur).mono ?_; rintro e w2 ⟨x, _, rfl, hcur2, hgr⟩
  go_wp2_with fail
  all_goals (go_ret; exact ⟨_, rfl, hcur2, hgr⟩)
theorem or_pow {b i : Nat} (hb : b < 2 ^ i) (hi : i < 16) : bits .or .i64 (b : Int) ((2 ^ i : Nat) : Int) = ((b ||| 2 ^ i : Nat) : Int) ∧ (b ||| 2 ^ i) < 2 ^ (i + 1) := by
  have h1 : 2 ^ i ≤ 2 ^ 15 := Nat.pow_le_pow_right (by omega) (by omega)
  have h2 : 2 ^ (i + 1) = 2 * 2 ^ i := by rw [Nat.pow_succ, Nat.mul_comm]
  refine ⟨(bits_nat .i64 16 (by decide) (fun n h0 h1 => by rw [IntKind.wrap_i64]; omega) b (2 ^ i) (by omega) (by omega)).2, ?_⟩
  exact Nat.or_lt_two_pow (by omega) (by omega)
end Go.Proofs.Ytkkebpcclklmcaa
