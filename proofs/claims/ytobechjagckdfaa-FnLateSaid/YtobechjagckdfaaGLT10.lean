/-
  Texts put together: Draw, Draw2, Spans, Draw3, DrawK, Box, InvR.
-/
import Derived.Test.YtobechjagckdfaaGLT2
import Derived.Test.YtobechjagckdfaaGLT1
import Derived.Test.YtobechjagckdfaaGLT5
import Derived.Test.YtobechjagckdfaaGLT9
import Derived.Test.YtobechjagckdfaaGLT3
import Derived.Deep.RegionHeld3
import Derived.OrdersHeld
import Derived.RegionTactic
/-
  The draws: what is needed of the cursor over the bytes of a draw is that it stays one, and that its numbers lie where they should.
-/
set_option linter.unusedVariables false
set_option linter.unusedSimpArgs false
namespace Go.Proofs.Ytobechjagckdfaa
open Go.RowKit

/-- A slice of n bytes, below block B. -/
def BytesAt (B : Nat) (w : World) (v : Value) (n : Nat) : Prop :=
  ∃ ao cap, v = .slice ao n cap ∧ n ≤ 9223372036854775807 ∧ ∀ j, j < n → ∃ b o x, ao = some ⟨b, o, none⟩ ∧ b < B ∧ w.cell? ⟨b, o + j, none⟩ = some (.int .u8 x) ∧ 0 ≤ x ∧ x ≤ 255
/-- Block g is a cursor; what it reads lies below block B. -/
def Cur (B : Nat) (w : World) (g : Nat) : Prop :=
  B ≤ g ∧ g < w.heap.size ∧ ∃ v n h, ∃ i : Nat, w.cell? ⟨g, 0, none⟩ = some v ∧ w.cell? ⟨g, 1, none⟩ = some (.int .i64 i) ∧ w.cell? ⟨g, 2, none⟩ = some (.int .i64 h) ∧ w.frozen? ⟨g, 1, none⟩ = false ∧ w.frozen? ⟨g, 2, none⟩ = false ∧ i ≤ n ∧ BytesAt B w v n
theorem BytesAt.stays {B : Nat} {w w' : World} {v : Value} {n : Nat} (h : BytesAt B w v n) (hs : ∀ k, k < B → w'.heap[k]? = w.heap[k]?) : BytesAt B w' v n := by
  obtain ⟨ao, cap, rfl, hn, hj⟩ := h
  refine ⟨ao, cap, rfl, hn, fun j hlt => ?_⟩
  obtain ⟨b, o, x, h1, h2, h3, h4⟩ := hj j hlt
  exact ⟨b, o, x, h1, h2, (World.cell?_of_block (w := w) (hs b h2)).trans h3, h4⟩
theorem Cur.lt {B : Nat} {w : World} {g : Nat} (h : Cur B w g) : g < w.heap.size := h.2.1
theorem Cur.stays {B : Nat} {w w' : World} {g : Nat} (h : Cur B w g) (hsz : w.heap.size ≤ w'.heap.size) (hs : ∀ k, k < B ∨ k = g → w'.heap[k]? = w.heap[k]?) : Cur B w' g := by
  obtain ⟨h1, h2, v, n, h, i, c0, c1, c2, f1, f2, hi, hb⟩ := h
  have hc : ∀ o, w'.cell? ⟨g, o, none⟩ = w.cell? ⟨g, o, none⟩ := fun o => World.cell?_of_block (w := w) (hs g (.inr rfl))
  have hf : ∀ o, w'.frozen? ⟨g, o, none⟩ = w.frozen? ⟨g, o, none⟩ := fun o => World.frozen?_of_block (w := w) (hs g (.inr rfl))
  exact ⟨h1, by omega, v, n, h, i, (hc 0).trans c0, (hc 1).trans c1, (hc 2).trans c2, (hf 1).trans f1, (hf 2).trans f2, hi, hb.stays fun k hk => hs k (.inl hk)⟩
theorem Cur.below {B : Nat} {w w' : World} {g : Nat} (h : Cur B w g) (hb : Below w.heap.size w w') : Cur B w' g :=
  h.stays hb.size fun k hk => hb.block k (by have h1 := h.1; have h2 := h.2.1; omega)
/-- What a call on a cursor leaves: a number, the cursor, and nothing else turned. -/
def Drawn (B : Nat) (w : World) (g : Nat) (P : Int → Prop) (e : Ending) (w' : World) : Prop := ∃ x, P x ∧ e = .returned (.int .i64 x) ∧ Cur B w' g ∧ w.grownBy w' (some g)
theorem and255 (n : Int) : bits .and .i64 n 255 = n % 256 := by
  have h255 : (BitVec.ofInt 64 255).toNat = 2 ^ 8 - 1 := by decide
  have key : (BitVec.ofInt 64 n &&& BitVec.ofInt 64 255).toNat = (n % ((2 ^ 64 : Nat) : Int)).toNat % 2 ^ 8 := by
    rw [BitVec.toNat_and, BitVec.toNat_ofInt, h255, Nat.and_two_pow_sub_one_eq_mod]
  show IntKind.i64.wrap ((BitVec.ofInt 64 n &&& BitVec.ofInt 64 255).toNat : Nat) = n % 256
  rw [key, IntKind.wrap_i64]
  omega
theorem and255_in (n : Int) : 0 ≤ bits .and .i64 n 255 ∧ bits .and .i64 n 255 ≤ 255 := by rw [and255]; omega
/-- The cursor behind some steps that have turned its own block alone. -/
theorem cur_of {B g : Nat} {w w' : World} {ao : Option Addr} {n cap i : Nat} {h : Int} (hBg : B ≤ g) (hg : g < w.heap.size) (hgr : w.grownBy w' (some g)) (hb : BytesAt B w (.slice ao n cap) n) (hi : i ≤ n) (c0 : w'.cell? ⟨g, 0, none⟩ = some (.slice ao n cap)) (c1 : w'.cell? ⟨g, 1, none⟩ = some (.int .i64 i)) (c2 : w'.cell? ⟨g, 2, none⟩ = some (.int .i64 h))
    (f1 : w'.frozen? ⟨g, 1, none⟩ = false) (f2 : w'.frozen? ⟨g, 2, none⟩ = false) : Cur B w' g :=
  ⟨hBg, Nat.lt_of_lt_of_le hg hgr.size, _, n, h, i, c0, c1, c2, f1, f2, hi, hb.stays fun k hk => hgr.block k (by omega) (by simp; omega)⟩

theorem s_l01Byte (B g : Nat) (w : World) (hcur : Cur B w g) : Calls Try.prog 57 #[.pointer (some ⟨g, 0, none⟩)] w (Drawn B w g fun x => 0 ≤ x ∧ x ≤ 255) := by
  obtain ⟨hBg, hg, v, n, h, i, c0, c1, c2, f1, f2, hi, hbytes⟩ := hcur
  obtain ⟨ao, cap, rfl, hn, hbs⟩ := hbytes
  have HB : Hid (BytesAt B w (.slice ao n cap) n) := ⟨ao, cap, rfl, hn, hbs⟩
  have hall : allLt [g] w.heap.size := ⟨hg, trivial⟩
  have hx := hall
  simp only [allLt, and_true] at hx
  by_cases hlt : i < n
  · obtain ⟨b, o, x, rfl, hbB, hbc, hx0, hx1⟩ := hbs i hlt
    clear hbs
    have hne : ¬ g = b := by omega
    have hlt' : (i : Int) < n := by omega
    have hbz : b < w.heap.size := by omega
    replace hall : allLt [g, b] w.heap.size := ⟨hg, hbz, trivial⟩
    go_enter Try.func57, Try.ntmps57
    go_wp2_with (first | (with_reducible refine wp_region_grew2 (by kernel_rfl) (by kernel_rfl) ?_; intro w2 hb; (first | have hn := nw4 hb hall (by exact zo) | have hn := nw3 hb hall (by exact zo) | have hn := nw2 hb hall (by exact zo) | have hn := nw1 hb hall (by exact zo) | have hn := nw0 hb hall (by exact zo)); obtain ⟨hc, hf, hn, hc0⟩ := hn; replace hall := hn; clear hn; have hz := hb.size; (try simp only [World.size_alloc, World.size_setCell, World.size_drew] at hz); have hx := hall; (try simp only [allLt, and_true] at hx); obtain ⟨w1, rfl⟩ : ∃ x, x = w2 := ⟨_, rfl⟩; (repeat (go_big_quiet_step (fail))); refine wpQuiet_nil ?_; intro w2 hw'; have hb := grew_below hw'; clear hw'; (first | have hn := nw4 hb hall (by exact zo) | have hn := nw3 hb hall (by exact zo) | have hn := nw2 hb hall (by exact zo) | have hn := nw1 hb hall (by exact zo) | have hn := nw0 hb hall (by exact zo)); obtain ⟨hc, hf, hn, hc0⟩ := hn; replace hall := hn; clear hn; have hz := hb.size; (try simp only [World.size_alloc, World.size_setCell, World.size_drew] at hz); have hx := hall; (try simp only [allLt, and_true] at hx); obtain ⟨w1, rfl⟩ : ∃ x, x = w2 := ⟨_, rfl⟩))
    all_goals (go_ret; refine ⟨_, and255_in _, rfl, ?_⟩)
    all_goals refine (fun hgr => ⟨cur_of (i := i + 1) (h := wrap64 (wrap64 (h * 6364136223846793005) + 1442695040888963407)) hBg hg hgr HB.out (by omega) ?_ ?_ ?_ ?_ ?_, hgr⟩) (by (repeat (first | exact grown_refl _ _ | refine grown_setCell ?_ _ _ | refine grown_trans ?_ (by assumption) | refine grown_below ?_ (by assumption))))
    all_goals first | (go_simp; done) | (go_simp; go_num)
  · have hlt' : ¬ (i : Int) < n := by omega
    clear hbs
    go_enter Try.func57, Try.ntmps57
    go_wp2_with (first | (with_reducible refine wp_region_grew2 (by kernel_rfl) (by kernel_rfl) ?_; intro w2 hb; (first | have hn := nw4 hb hall (by exact zo) | have hn := nw3 hb hall (by exact zo) | have hn := nw2 hb hall (by exact zo) | have hn := nw1 hb hall (by exact zo) | have hn := nw0 hb hall (by exact zo)); obtain ⟨hc, hf, hn, hc0⟩ := hn; replace hall := hn; clear hn; have hz := hb.size; (try simp only [World.size_alloc, World.size_setCell, World.size_drew] at hz); have hx := hall; (try simp only [allLt, and_true] at hx); obtain ⟨w1, rfl⟩ : ∃ x, x = w2 := ⟨_, rfl⟩; (repeat (go_big_quiet_step (fail))); refine wpQuiet_nil ?_; intro w2 hw'; have hb := grew_below hw'; clear hw'; (first | have hn := nw4 hb hall (by exact zo) | have hn := nw3 hb hall (by exact zo) | have hn := nw2 hb hall (by exact zo) | have hn := nw1 hb hall (by exact zo) | have hn := nw0 hb hall (by exact zo)); obtain ⟨hc, hf, hn, hc0⟩ := hn; replace hall := hn; clear hn; have hz := hb.size; (try simp only [World.size_alloc, World.size_setCell, World.size_drew] at hz); have hx := hall; (try simp only [allLt, and_true] at hx); obtain ⟨w1, rfl⟩ : ∃ x, x = w2 := ⟨_, rfl⟩))
    all_goals (go_ret; refine ⟨_, and255_in _, rfl, ?_⟩)
    all_goals refine (fun hgr => ⟨cur_of (i := i) (h := wrap64 (wrap64 (h * 6364136223846793005) + 1442695040888963407)) hBg hg hgr HB.out (by omega) ?_ ?_ ?_ ?_ ?_, hgr⟩) (by (repeat (first | exact grown_refl _ _ | refine grown_setCell ?_ _ _ | refine grown_trans ?_ (by assumption) | refine grown_below ?_ (by assumption))))
    all_goals first | (go_simp; done) | (go_simp; go_num)
def InBelow (n x : Int) : Prop := 0 ≤ x ∧ (0 < n → x < n) ∧ (n ≤ 0 → x = 0)
theorem mod_in {x n : Int} (h0 : 0 ≤ x) (hx : x ≤ 9223372036854775807) (hn : 0 < n) : wrap64 (x % n) = x % n ∧ InBelow n (x % n) := by
  have h1 := Int.emod_nonneg x (show n ≠ 0 by omega)
  have h2 := Int.emod_lt_of_pos x hn
  have h3 : x % n ≤ x := by
    rcases Int.lt_or_le x n with h | h
    · rw [Int.emod_eq_of_lt h0 h]; omega
    · omega
  exact ⟨IntWalk.wrap64_in _ ⟨by omega, by omega⟩, h1, fun _ => h2, fun h => by omega⟩
theorem s_l01Below (B g : Nat) (n : Int) (w : World) (hcur : Cur B w g) : Calls Try.prog 30 #[.pointer (some ⟨g, 0, none⟩), .int .i64 n] w (Drawn B w g (InBelow n)) := by
  by_cases h1 : n ≤ 0
  · go_enter Try.func30, Try.ntmps30
    go_wp2_with (go_at_call 57; refine (s_l01Byte B g _ hcur).mono ?_; rintro e w2 ⟨x, hx, rfl, hcur, hgr⟩)
    go_ret
    exact ⟨0, ⟨Int.le_refl _, fun h => by omega, fun _ => rfl⟩, rfl, hcur, grown_refl _ _⟩
  · by_cases h2 : n ≤ 256
    · go_enter Try.func30, Try.ntmps30
      go_wp2_with fail
      refine (s_l01Byte B g _ hcur).mono ?_; rintro e wa ⟨x, hx, rfl, hcur1, hgr1⟩
      have HM := Lib.hid (mod_in (x := x) (n := n) (by omega) (by omega) (by omega))
      have HG := Lib.hid hgr1
      clear hgr1 hcur
      go_wp2_with fail
      go_ret
      exact ⟨_, HM.out.2, by simp [HM.out.1], hcur1, HG.out⟩
    · go_enter Try.func30, Try.ntmps30
      go_wp2_with fail
      refine (s_l01Byte B g _ hcur).mono ?_; rintro e wa ⟨x1, hx1, rfl, hcur1, hgr1⟩
      go_wp2_with fail
      refine (s_l01Byte B g _ hcur1).mono ?_; rintro e wb ⟨x2, hx2, rfl, hcur2, hgr2⟩
      go_wp2_with fail
      refine (s_l01Byte B g _ hcur2).mono ?_; rintro e wc ⟨x3, hx3, rfl, hcur3, hgr3⟩
      go_wp2_with fail
      refine (s_l01Byte B g _ hcur3).mono ?_; rintro e wd ⟨x4, hx4, rfl, hcur4, hgr4⟩
      have HG : Hid (w.grownBy wd (some g)) := grown_trans (grown_trans (grown_trans hgr1 hgr2) hgr3) hgr4
      clear hgr1 hgr2 hgr3 hgr4 hcur hcur1 hcur2 hcur3
      have M := mod_in (x := x1 * 16777216 + x2 * 65536 + x3 * 256 + x4) (by omega) (by omega) (show 0 < n by omega)
      have HM := Lib.hid M; clear M
      go_wp2_with fail
      go_ret
      exact ⟨_, HM.out.2, by simp [HM.out.1], hcur4, HG.out⟩
def NewCur (w : World) (e : Ending) (w' : World) : Prop := ∃ g, e = .returned (.pointer (some ⟨g, 0, none⟩)) ∧ Cur w.heap.size w' g ∧ Below w.heap.size w w'
theorem s_l01New (v : Value) (n : Nat) (w : World) (hv : BytesAt w.heap.size w v n) : Calls Try.prog 22 #[v] w (NewCur w) := by
  have HV := Lib.hid hv
  obtain ⟨ao, cap, rfl, hn, hb⟩ := hv
  have hall := all_nil w
  go_enter Try.func22, Try.ntmps22
  go_wp2_with (first | (with_reducible refine wp_region_grew2 (by kernel_rfl) (by kernel_rfl) ?_; intro w2 hb; (first | have hn := nw4 hb hall (by exact zo) | have hn := nw3 hb hall (by exact zo) | have hn := nw2 hb hall (by exact zo) | have hn := nw1 hb hall (by exact zo) | have hn := nw0 hb hall (by exact zo)); obtain ⟨hc, hf, hn, hc0⟩ := hn; replace hall := hn; clear hn; have hz := hb.size; (try simp only [World.size_alloc, World.size_setCell, World.size_drew] at hz); have hx := hall; (try simp only [allLt, and_true] at hx); obtain ⟨w1, rfl⟩ : ∃ x, x = w2 := ⟨_, rfl⟩; (repeat (go_big_quiet_step (fail))); refine wpQuiet_nil ?_; intro w2 hw'; have hb := grew_below hw'; clear hw'; (first | have hn := nw4 hb hall (by exact zo) | have hn := nw3 hb hall (by exact zo) | have hn := nw2 hb hall (by exact zo) | have hn := nw1 hb hall (by exact zo) | have hn := nw0 hb hall (by exact zo)); obtain ⟨hc, hf, hn, hc0⟩ := hn; replace hall := hn; clear hn; have hz := hb.size; (try simp only [World.size_alloc, World.size_setCell, World.size_drew] at hz); have hx := hall; (try simp only [allLt, and_true] at hx); obtain ⟨w1, rfl⟩ : ∃ x, x = w2 := ⟨_, rfl⟩))
  go_loop [3, 4] (fun h i => ∃ k : Nat, ∃ h' : Int, k ≤ n ∧ i = .int .i64 k ∧ h = .int .i64 h') (fun _ i => n - (intOf i).toNat)
  case atStart => exact ⟨0, _, Nat.zero_le _, rfl, rfl⟩
  case round =>
    obtain ⟨k, h, hk, rfl, rfl⟩ := hrel
    have fin : ∀ (h : Int), NewCur w (.returned (.pointer (some ⟨w.heap.size, 0, none⟩))) (w.alloc (.cells #[.slice ao n cap, .int .i64 0, .int .i64 h] 95)) := fun h =>
      have hb : Below w.heap.size w (w.alloc (.cells #[.slice ao n cap, .int .i64 0, .int .i64 h] 95)) := (Below.refl _ _).alloc (Nat.le_refl _) _
      ⟨w.heap.size, rfl, ⟨Nat.le_refl _, by simp, .slice ao n cap, n, h, 0, by go_simp, by go_simp, by go_simp, by go_simp, by go_simp, Nat.zero_le _, HV.out.stays fun i hi => hb.block i hi⟩, hb⟩
    have HF := Lib.hid fin; clear fin
    by_cases hlt : k < n
    · obtain ⟨b, o, x, rfl, _, hbc, hx0, hx1⟩ := hb k hlt
      clear hb
      have hlt' : (k : Int) < n := by omega
      by_cases h4 : k < 4000
      · have h4' : (k : Int) < 4000 := by omega
        go_wp2_with (first | (with_reducible refine wp_region_grew2 (by kernel_rfl) (by kernel_rfl) ?_; intro w2 hb; (first | have hn := nw4 hb hall (by exact zo) | have hn := nw3 hb hall (by exact zo) | have hn := nw2 hb hall (by exact zo) | have hn := nw1 hb hall (by exact zo) | have hn := nw0 hb hall (by exact zo)); obtain ⟨hc, hf, hn, hc0⟩ := hn; replace hall := hn; clear hn; have hz := hb.size; (try simp only [World.size_alloc, World.size_setCell, World.size_drew] at hz); have hx := hall; (try simp only [allLt, and_true] at hx); obtain ⟨w1, rfl⟩ : ∃ x, x = w2 := ⟨_, rfl⟩; (repeat (go_big_quiet_step (fail))); refine wpQuiet_nil ?_; intro w2 hw'; have hb := grew_below hw'; clear hw'; (first | have hn := nw4 hb hall (by exact zo) | have hn := nw3 hb hall (by exact zo) | have hn := nw2 hb hall (by exact zo) | have hn := nw1 hb hall (by exact zo) | have hn := nw0 hb hall (by exact zo)); obtain ⟨hc, hf, hn, hc0⟩ := hn; replace hall := hn; clear hn; have hz := hb.size; (try simp only [World.size_alloc, World.size_setCell, World.size_drew] at hz); have hx := hall; (try simp only [allLt, and_true] at hx); obtain ⟨w1, rfl⟩ : ∃ x, x = w2 := ⟨_, rfl⟩))
        go_round
        case rel => exact ⟨k + 1, _, by omega, by go_num, rfl⟩
        case measure => simp [intOf]; omega
      · have h4' : ¬ (k : Int) < 4000 := by omega
        go_wp2_with (first | (with_reducible refine wp_region_grew2 (by kernel_rfl) (by kernel_rfl) ?_; intro w2 hb; (first | have hn := nw4 hb hall (by exact zo) | have hn := nw3 hb hall (by exact zo) | have hn := nw2 hb hall (by exact zo) | have hn := nw1 hb hall (by exact zo) | have hn := nw0 hb hall (by exact zo)); obtain ⟨hc, hf, hn, hc0⟩ := hn; replace hall := hn; clear hn; have hz := hb.size; (try simp only [World.size_alloc, World.size_setCell, World.size_drew] at hz); have hx := hall; (try simp only [allLt, and_true] at hx); obtain ⟨w1, rfl⟩ : ∃ x, x = w2 := ⟨_, rfl⟩; (repeat (go_big_quiet_step (fail))); refine wpQuiet_nil ?_; intro w2 hw'; have hb := grew_below hw'; clear hw'; (first | have hn := nw4 hb hall (by exact zo) | have hn := nw3 hb hall (by exact zo) | have hn := nw2 hb hall (by exact zo) | have hn := nw1 hb hall (by exact zo) | have hn := nw0 hb hall (by exact zo)); obtain ⟨hc, hf, hn, hc0⟩ := hn; replace hall := hn; clear hn; have hz := hb.size; (try simp only [World.size_alloc, World.size_setCell, World.size_drew] at hz); have hx := hall; (try simp only [allLt, and_true] at hx); obtain ⟨w1, rfl⟩ : ∃ x, x = w2 := ⟨_, rfl⟩))
        go_ret
        exact HF.out _
    · have hlt' : ¬ (k : Int) < n := by omega
      clear hb
      go_wp2_with (first | (with_reducible refine wp_region_grew2 (by kernel_rfl) (by kernel_rfl) ?_; intro w2 hb; (first | have hn := nw4 hb hall (by exact zo) | have hn := nw3 hb hall (by exact zo) | have hn := nw2 hb hall (by exact zo) | have hn := nw1 hb hall (by exact zo) | have hn := nw0 hb hall (by exact zo)); obtain ⟨hc, hf, hn, hc0⟩ := hn; replace hall := hn; clear hn; have hz := hb.size; (try simp only [World.size_alloc, World.size_setCell, World.size_drew] at hz); have hx := hall; (try simp only [allLt, and_true] at hx); obtain ⟨w1, rfl⟩ : ∃ x, x = w2 := ⟨_, rfl⟩; (repeat (go_big_quiet_step (fail))); refine wpQuiet_nil ?_; intro w2 hw'; have hb := grew_below hw'; clear hw'; (first | have hn := nw4 hb hall (by exact zo) | have hn := nw3 hb hall (by exact zo) | have hn := nw2 hb hall (by exact zo) | have hn := nw1 hb hall (by exact zo) | have hn := nw0 hb hall (by exact zo)); obtain ⟨hc, hf, hn, hc0⟩ := hn; replace hall := hn; clear hn; have hz := hb.size; (try simp only [World.size_alloc, World.size_setCell, World.size_drew] at hz); have hx := hall; (try simp only [allLt, and_true] at hx); obtain ⟨w1, rfl⟩ : ∃ x, x = w2 := ⟨_, rfl⟩))
      go_ret
      exact HF.out _
end Go.Proofs.Ytobechjagckdfaa
/-
  Lists of ints of the call's own; the twelve places of a draw.
-/
set_option linter.unusedVariables false
set_option linter.unusedSimpArgs false
namespace Go.Proofs.Ytobechjagckdfaa
open Go.RowKit
def Places (w : World) (e : Ending) (w' : World) : Prop := ∃ v xs, e = .returned v ∧ OwnI w.heap.size w' v xs ∧ xs.length = 12 ∧ (∀ x ∈ xs, 0 ≤ x ∧ x ≤ 9999) ∧ Below w.heap.size w w'
theorem s_DrawPlaces (v : Value) (n : Nat) (w : World) (hv : BytesAt w.heap.size w v n) : Calls Try.prog 12 #[v] w (Places w) := by
  have hall := all_nil w
  have HV := Lib.hid hv; clear hv
  go_enter Try.func12, Try.ntmps12
  go_wp2_with fail
  refine (s_l01New _ n _ HV.out).mono ?_; rintro e w0 ⟨g, rfl, hcur, hb0⟩
  go_wp2_with fail
  have hcur0 : Cur w.heap.size (w0.alloc (.cells #[] 3)) g := hcur.below ((Below.refl _ _).alloc (Nat.le_refl _) _)
  have hg := hcur.1
  go_loopw [4, 5] (fun o i wr => ∃ k : Nat, ∃ xs, k ≤ 12 ∧ i = .int .i64 k ∧ xs.length = k ∧ (∀ x ∈ xs, 0 ≤ x ∧ x ≤ 9999) ∧ OwnI (g + 1) wr o xs ∧ Cur w.heap.size wr g ∧ Below w.heap.size w wr) (fun _ i _ => 12 - (intOf i).toNat)
  case atStart =>
    refine ⟨0, [], Nat.zero_le _, rfl, rfl, (by simp), ?_, hcur0, ?_⟩
    · exact Own.empty _ _ _ _ _ hcur.2.1
    · exact hb0.alloc hb0.size _
  case round =>
    obtain ⟨k, xs, hk, rfl, hxl, hxs, hown, hcr, hbr⟩ := hrel
    have HX := Lib.hid hxs; have HL := Lib.hid hxl; clear hxs hxl hcur hcur0 hb0
    obtain ⟨wo, rfl⟩ : ∃ wo : World, wo = wr := ⟨_, rfl⟩
    by_cases hlt : k < 12
    · go_wp2_with fail
      refine (s_l01Below _ g _ _ hcr).mono ?_; rintro e w2 ⟨x, hx, rfl, hcur2, hgr⟩
      have hx' := hx.2.1 (by omega)
      have hx0 := hx.1
      clear hx
      have hown2 : OwnI (g + 1) w2 u4 xs := hown.kept fun b hb => hgr.block b (hown.lt b hb).2 (by have := (hown.lt b hb).1; simp; omega)
      have hb2 : Below w.heap.size w w2 := hbr.trans (below_of_grown hgr hg (by have := hbr.size; omega))
      go_wp2_with (at_builtin; refine append1 elemInt rfl _ _ rfl lenInt oneInt rfl (hown2.alloc _) ?hB rfl x (intCell _ _) ?hlen ?_)
      case hB => simp only [World.size_alloc]; have := hcur2.lt; omega
      case hlen => rw [HL.out]; unfold maxLen; omega
      intro v' w' hown' hgr' hbel
      have hcur' : Cur w.heap.size w' g := (hcur2.below ((Below.refl _ _).alloc (Nat.le_refl _) _)).stays hbel.size (fun b hb => hbel.block b (by omega))
      have hb' : Below w.heap.size w w' := (hb2.alloc hb2.size _).trans (hbel.mono (by omega))
      clear hgr' hbel hown hown2 hcur2 hgr hbr hb2 hcr
      go_wp2_with fail
      go_roundw
      case rel => exact ⟨k + 1, xs ++ [x], by omega, by go_num, by rw [List.length_append, HL.out]; rfl, fun y hy => by
        rcases List.mem_append.1 hy with h | h
        · exact HX.out y h
        · simp at h; subst h; omega, hown', hcur', hb'⟩
      case measure => simp [intOf]; omega
    · obtain rfl : k = 12 := by omega
      go_wp2_with fail
      go_ret
      exact ⟨_, xs, rfl, hown.mono (by omega), HL.out, HX.out, hbr⟩
/-- The twelve places, as the walk reads them. -/
theorem places_at {B : Nat} {w : World} {v : Value} {xs : List Int} (h : OwnI B w v xs) (hl : xs.length = 12) : ∃ g cap, v = .slice (some ⟨g, 0, none⟩) 12 cap ∧ B ≤ g ∧ g < w.heap.size ∧ ∀ i, i < 12 → w.cell? ⟨g, i, none⟩ = some (.int .i64 (xs.getD i 0)) := by
  obtain ⟨ao, cap, rfl, hc, hm, hr⟩ := h.read lenInt
  obtain ⟨g, rfl, hB, hg, _, _⟩ := hr 0 (by omega)
  refine ⟨g, cap, by rw [hl], hB, hg, fun i hi => ?_⟩
  obtain ⟨g', hg', _, _, _, hcell⟩ := hr i (by omega)
  simp only [Option.some.injEq, Addr.mk.injEq, and_true] at hg'
  subst hg'
  have := hcell 0 (by omega)
  simp only [Nat.mul_one, Nat.add_zero, fInt, List.getElem?_cons_zero] at this
  rw [this, List.getD_eq_getElem?_getD, List.getElem?_eq_getElem (by omega), Option.getD_some]
theorem places_in {xs : List Int} (hl : xs.length = 12) (h : ∀ x ∈ xs, 0 ≤ x ∧ x ≤ 9999) (i : Nat) (hi : i < 12) : 0 ≤ xs.getD i 0 ∧ xs.getD i 0 ≤ 9999 := by
  rw [List.getD_eq_getElem?_getD, List.getElem?_eq_getElem (by omega), Option.getD_some]
  exact h _ (List.getElem_mem _)
end Go.Proofs.Ytobechjagckdfaa
/-
  Lists of spans: read where they lie, and made anew.
-/
set_option linter.unusedVariables false
set_option linter.unusedSimpArgs false
namespace Go.Proofs.Ytobechjagckdfaa
open Go.RowKit
structure Sp where
  p : Int
  c : Int
  b : Int
deriving DecidableEq, Inhabited
def Sp.val (s : Sp) : Value := .agg #[.int .i64 s.p, .int .i64 s.c, .int .i64 s.b]
def fSpan (s : Sp) : List Value := [.int .i64 s.p, .int .i64 s.c, .int .i64 s.b]
theorem elemSpan : ElemT Try.prog 36 49 (.agg #[.int .i64 0, .int .i64 0, .int .i64 0]) 3 24 := ⟨Try.underlying36, info_parts (by kernel_rfl), rfl, by decide⟩
theorem lenSpan : LenK 3 fSpan := fun _ => rfl
theorem oneSpan : ∀ y : Sp, ∀ u ∈ fSpan y, u.oneCell' = true := fun y u hu => by simp [fSpan] at hu; rcases hu with rfl | rfl | rfl <;> rfl
abbrev OwnSp (B : Nat) (w : World) (v : Value) (xs : List Sp) : Prop := Own 49 3 fSpan B w v xs
/-- A list of spans that can be read. -/
def SpansAt (w : World) (v : Value) (xs : List Sp) : Prop := ∃ ao cap, v = .slice ao xs.length cap ∧ xs.length ≤ cap ∧ cap ≤ maxLen ∧
  ∀ i (hi : i < xs.length), ∃ g o, ao = some ⟨g, o, none⟩ ∧ g < w.heap.size ∧ w.cell? ⟨g, o + i * 3, none⟩ = some (.int .i64 xs[i].p) ∧ w.cell? ⟨g, o + i * 3 + 1, none⟩ = some (.int .i64 xs[i].c) ∧ w.cell? ⟨g, o + i * 3 + 2, none⟩ = some (.int .i64 xs[i].b)
theorem SpansAt.below {w w' : World} {v : Value} {xs : List Sp} (h : SpansAt w v xs) (hb : Below w.heap.size w w') : SpansAt w' v xs := by
  obtain ⟨ao, cap, rfl, h1, h2, hr⟩ := h
  refine ⟨ao, cap, rfl, h1, h2, fun i hi => ?_⟩
  obtain ⟨g, o, rfl, hg, c0, c1, c2⟩ := hr i hi
  have := hb.size
  exact ⟨g, o, rfl, by omega, (hb.cell (p := ⟨g, o + i * 3, none⟩) hg).trans c0, (hb.cell (p := ⟨g, o + i * 3 + 1, none⟩) hg).trans c1, (hb.cell (p := ⟨g, o + i * 3 + 2, none⟩) hg).trans c2⟩
theorem OwnSp.at {B : Nat} {w : World} {v : Value} {xs : List Sp} (h : OwnSp B w v xs) : SpansAt w v xs := by
  obtain ⟨ao, cap, rfl, h1, h2, hr⟩ := h.read lenSpan
  refine ⟨ao, cap, rfl, h1, h2, fun i hi => ?_⟩
  obtain ⟨g, rfl, hB, hg, _, hc⟩ := hr i hi
  exact ⟨g, 0, rfl, hg, by rw [Nat.zero_add]; simpa [fSpan] using hc 0 (by omega), by rw [Nat.zero_add]; simpa [fSpan] using hc 1 (by omega), by rw [Nat.zero_add]; simpa [fSpan] using hc 2 (by omega)⟩
theorem SpansAt.open {w : World} {v : Value} {xs : List Sp} (h : SpansAt w v xs) : ∃ ao cap, v = .slice ao xs.length cap ∧ xs.length ≤ cap ∧ cap ≤ maxLen ∧
    ∀ i, i < xs.length → ∃ g o, ao = some ⟨g, o, none⟩ ∧ g < w.heap.size ∧ w.cell? ⟨g, o + i * 3, none⟩ = some (.int .i64 (xs.getD i default).p) ∧ w.cell? ⟨g, o + i * 3 + 1, none⟩ = some (.int .i64 (xs.getD i default).c) ∧ w.cell? ⟨g, o + i * 3 + 2, none⟩ = some (.int .i64 (xs.getD i default).b) := by
  obtain ⟨ao, cap, rfl, h1, h2, hr⟩ := h
  refine ⟨ao, cap, rfl, h1, h2, fun i hi => ?_⟩
  have : xs.getD i default = xs[i] := by rw [List.getD_eq_getElem?_getD, List.getElem?_eq_getElem hi, Option.getD_some]
  rw [this]
  exact hr i hi
/-- The beginning of it. -/
theorem SpansAt.take {w : World} {ao : Option Addr} {n cap : Nat} {xs : List Sp} (h : SpansAt w (.slice ao n cap) xs) (k : Nat) (hk : k ≤ xs.length) : SpansAt w (.slice ao k cap) (xs.take k) := by
  obtain ⟨ao', cap', he, h1, h2, hr⟩ := h
  simp only [Value.slice.injEq] at he
  obtain ⟨rfl, rfl, rfl⟩ := he
  have hl : (xs.take k).length = k := by simp; omega
  refine ⟨ao, cap, by rw [hl], by omega, h2, fun i hi => ?_⟩
  obtain ⟨g, o, rfl, hg, c⟩ := hr i (by omega)
  exact ⟨g, o, rfl, hg, by simpa using c⟩
theorem zeroSpan : fSpan ⟨0, 0, 0⟩ = (Value.agg #[.int .i64 0, .int .i64 0, .int .i64 0]).cells.toList := by first | rfl | kernel_rfl | simp [fSpan, Value.cells]
/-- What stands at one element of it, and that it may be written. -/
theorem OwnSp.slot {B : Nat} {w : World} {g n cap : Nat} {xs : List Sp} (h : OwnSp B w (.slice (some ⟨g, 0, none⟩) n cap) xs) (j : Nat) (hj : j < xs.length) : g < w.heap.size ∧ ∃ a b c, w.cell? ⟨g, j * 3, none⟩ = some (.int .i64 a) ∧ w.cell? ⟨g, j * 3 + 1, none⟩ = some (.int .i64 b) ∧ w.cell? ⟨g, j * 3 + 2, none⟩ = some (.int .i64 c) ∧
    w.frozen? ⟨g, j * 3, none⟩ = false ∧ w.frozen? ⟨g, j * 3 + 1, none⟩ = false ∧ w.frozen? ⟨g, j * 3 + 2, none⟩ = false := by
  obtain ⟨ao', ca', he, _, _, hr⟩ := Own.read h lenSpan
  obtain ⟨g', he', _, hg', hz', hc'⟩ := hr j hj
  simp only [Value.slice.injEq] at he
  obtain ⟨rfl, _, rfl⟩ := he
  simp only [Option.some.injEq, Addr.mk.injEq, and_true] at he'
  obtain rfl := he'
  exact ⟨hg', _, _, _, by simpa [fSpan] using hc' 0 (by omega), by simpa [fSpan] using hc' 1 (by omega), by simpa [fSpan] using hc' 2 (by omega), hz' _, hz' _, hz' _⟩
end Go.Proofs.Ytobechjagckdfaa
/-
  Spans that are drawn.
-/
set_option linter.unusedVariables false
set_option linter.unusedSimpArgs false
namespace Go.Proofs.Ytobechjagckdfaa
open Go.RowKit
/-- A call on a cursor that hands back a Bool. -/
def DrawnB (B : Nat) (w : World) (g : Nat) (e : Ending) (w' : World) : Prop := ∃ b, e = .returned (.bool b) ∧ Cur B w' g ∧ w.grownBy w' (some g)
theorem s_l01Once (B g : Nat) (n : Int) (w : World) (hcur : Cur B w g) : Calls Try.prog 49 #[.pointer (some ⟨g, 0, none⟩), .int .i64 n] w (DrawnB B w g) := by
  (have hall := all_nil w; go_enter Try.func49, Try.ntmps49)
  go_wp2_with fail
  refine (s_l01Below B g n _ hcur).mono ?_; rintro e w2 ⟨x, _, rfl, hcur2, hgr⟩
  go_wp2_with fail
  all_goals (go_ret; exact ⟨_, rfl, hcur2, hgr⟩)
theorem or_pow {b i : Nat} (hb : b < 2 ^ i) (hi : i < 16) : bits .or .i64 (b : Int) ((2 ^ i : Nat) : Int) = ((b ||| 2 ^ i : Nat) : Int) ∧ (b ||| 2 ^ i) < 2 ^ (i + 1) := by
  have h1 : 2 ^ i ≤ 2 ^ 15 := Nat.pow_le_pow_right (by omega) (by omega)
  have h2 : 2 ^ (i + 1) = 2 * 2 ^ i := by rw [Nat.pow_succ, Nat.mul_comm]
  refine ⟨(bits_nat .i64 16 (by decide) (fun n h0 h1 => by rw [IntKind.wrap_i64]; omega) b (2 ^ i) (by omega) (by omega)).2, ?_⟩
  exact Nat.or_lt_two_pow (by omega) (by omega)
theorem s_l02Map (B g : Nat) (n : Nat) (hn : n ≤ 16) (w : World) (hcur : Cur B w g) : Calls Try.prog 46 #[.pointer (some ⟨g, 0, none⟩), .int .i64 n] w (Drawn B w g fun x => 0 ≤ x ∧ x < 2 ^ n) := by
  (have hall := all_nil w; go_enter Try.func46, Try.ntmps46)
  go_wp2_with fail
  refine (s_l01Below B g _ _ hcur).mono ?_; rintro e w2 ⟨x, hx, rfl, hcur2, hgr2⟩
  have hx1 := hx.1; have hx2 := hx.2.1 (by omega)
  clear hx hcur
  go_wp2_with fail
  go_loopw [5, 7] (fun b i wr => ∃ k m : Nat, k ≤ n ∧ i = .int .i64 k ∧ b = .int .i64 m ∧ m < 2 ^ k ∧ Cur B wr g ∧ w.grownBy wr (some g)) (fun _ i _ => n - (intOf i).toNat)
  case atStart => exact ⟨0, 0, Nat.zero_le _, rfl, rfl, by decide, hcur2, hgr2⟩
  case round =>
    obtain ⟨k, m, hk, rfl, rfl, hm, hcur, hgr⟩ := hrel
    clear hcur2 hgr2
    have HG := Lib.hid hgr; clear hgr
    by_cases hlt : k < n
    · have hlt' : (k : Int) < n := by omega
      have O := or_pow hm (show k < 16 by omega)
      have O1 := Lib.hid O.1
      have O2 := Lib.hid O.2
      clear O
      have hp := pow_in (c := k) (by omega) (by omega)
      have HP : Hid (wrap64 (2 ^ k) = ((2 ^ k : Nat) : Int)) := by have := hp.1; rw [Int.toNat_natCast] at this; unfold Hid; rw [this]; simp
      clear hp
      go_wp2_with fail
      refine (s_l01Once B g _ _ hcur).mono ?_; rintro e w3 ⟨r, rfl, hcur3, hgr3⟩
      have hgr := grown_trans HG.out hgr3
      have hm2 : m < 2 ^ (k + 1) := by rw [Nat.pow_succ]; omega
      cases r
      · go_wp2_with fail
        go_roundw
        case rel => exact ⟨k + 1, m, by omega, by go_num, rfl, hm2, hcur3, hgr⟩
        case measure => simp [intOf]; omega
      · go_wp2_with fail
        go_roundw
        case rel => exact ⟨k + 1, m ||| 2 ^ k, by omega, by go_num, by rw [HP.out, O1.out], O2.out, hcur3, hgr⟩
        case measure => simp [intOf]; omega
    · have hlt' : ¬ (k : Int) < n := by omega
      obtain rfl : k = n := by omega
      go_wp2_with fail
      go_ret
      exact ⟨_, ⟨by omega, by have : ((2 : Int) ^ k) = ((2 ^ k : Nat) : Int) := by simp
                              omega⟩, rfl, hcur, HG.out⟩
end Go.Proofs.Ytobechjagckdfaa
/-
  What a draw of a kernel calls: refused calls, a new page.
-/
set_option linter.unusedVariables false
set_option linter.unusedSimpArgs false
namespace Go.Proofs.Ytobechjagckdfaa
open Go.RowKit
theorem Own.grown {α : Type} {E k B : Nat} {f : α → List Value} {w w' : World} {v : Value} {xs : List α} {g : Nat} (h : Own E k f B w v xs) (hgr : w.grownBy w' (some g)) (hg : g < B) : Own E k f B w' v xs :=
  h.kept fun b hb => hgr.block b (h.lt b hb).2 (by have := (h.lt b hb).1; simp; omega)
theorem grown_belowW {w a b : World} {r : Option Nat} (h : w.grownBy a r) (k : Below w.heap.size a b) : w.grownBy b r :=
  ⟨k.os.trans h.os, k.tape.trans h.tape, k.output.trans h.output, Nat.le_trans h.size k.size, fun i hi hr => (k.block i hi).trans (h.block i hi hr)⟩
def DrawnRf (B : Nat) (w : World) (g : Nat) (e : Ending) (w' : World) : Prop := ∃ (v : Value) (xs : List Int), e = .returned v ∧ xs.length ≤ 3 ∧ (∀ x ∈ xs, 0 ≤ x ∧ x < 12) ∧ OwnI w.heap.size w' v xs ∧ Cur B w' g ∧ w.grownBy w' (some g)
theorem s_l08Refuse (B g : Nat) (w : World) (hcur : Cur B w g) : Calls Try.prog 44 #[.pointer (some ⟨g, 0, none⟩)] w (DrawnRf B w g) := by
  have hg := hcur.lt
  have hBg := hcur.1
  have hall := all_nil w
  go_enter Try.func44, Try.ntmps44
  go_wp2_with fail
  have hcur0 : Cur B (w.alloc (.cells #[] 3)) g := hcur.below ((Below.refl _ _).alloc (Nat.le_refl _) _)
  have hgr0 := World.grownBy_alloc w (.cells #[] 3) (some g)
  have HC := Lib.hid hcur0; have HG := Lib.hid hgr0
  clear hcur hcur0 hgr0
  go_loopw [3, 4] (fun o i wr => ∃ (vo : Option Addr) (vc : Nat) (xs : List Int), xs.length ≤ 3 ∧ i = .int .i64 (xs.length : Nat) ∧ o = .slice vo xs.length vc ∧ (∀ x ∈ xs, 0 ≤ x ∧ x < 12) ∧ OwnI w.heap.size wr (.slice vo xs.length vc) xs ∧ Cur B wr g ∧ w.grownBy wr (some g)) (fun _ i _ => 3 - (intOf i).toNat)
  case atStart => exact ⟨_, _, [], Nat.zero_le _, rfl, rfl, (by simp), Own.empty _ _ _ _ _ (Nat.le_refl _), HC.out, HG.out⟩
  case round =>
    clear HC HG
    obtain ⟨vo, vc, xs, hn, rfl, rfl, hxs, hown, hcr, hgr⟩ := hrel
    have HX := Lib.hid hxs
    clear hxs
    go_wp2_with fail
    refine (s_l01Below B g _ _ hcr).mono ?_; rintro e w3 ⟨x, hx, rfl, hcur3, hgr3⟩
    have hx1 := hx.2.1 (by omega)
    have hgrA := grown_trans hgr hgr3
    have hownA := hown.grown hgr3 hg
    have HGA := Lib.hid hgrA; have HOA := Lib.hid hownA; have HCA := Lib.hid hcur3
    clear hx hcr hgr hgr3 hown hgrA hownA hcur3
    by_cases hlt : (xs.length : Int) < x
    · have hn2 : xs.length < 3 := by omega
      go_wp2_with fail
      refine (s_l01Below B g _ _ HCA.out).mono ?_; rintro e w4 ⟨y, hy, rfl, hcur4, hgr4⟩
      have hy1 := hy.2.1 (by omega)
      have hy0 := hy.1
      have hgrB := grown_trans HGA.out hgr4
      have hownB := HOA.out.grown hgr4 hg
      have HGB := Lib.hid hgrB; have HOB := Lib.hid hownB; have HCB := Lib.hid hcur4
      clear HGA HOA HCA hgrB hownB hcur4 hgr4 hy
      have hsz := HGB.out.size
      go_wp2_with (at_builtin; refine append1 elemInt rfl _ _ rfl lenInt oneInt rfl (HOB.out.alloc _) (by simp only [World.size_alloc]; omega) rfl y (intCell _ _) (by unfold maxLen; omega) ?_; intro v2 w2 hown2 _ hb2; obtain ⟨vo2, vc2, rfl, -, -⟩ := hown2.shape; have OR := Lib.hid hown2; have HB2 := Lib.hid hb2; clear hown2 hb2)
      have hup : Below w.heap.size w4 (w4.alloc (.cells #[.int .i64 y] 3)) := (Below.refl _ _).alloc hsz _
      have hbl := hup.trans HB2.out
      go_roundw
      case rel => exact ⟨vo2, vc2, xs ++ [y], by simp; omega, by (rw [List.length_append]; go_num), by (rw [List.length_append]; rfl), fun z hz => by
        rcases List.mem_append.1 hz with h | h
        · exact HX.out z h
        · simp at h; subst h; omega, OR.out, HCB.out.stays hbl.size (fun k hk => hbl.block k (by omega)), grown_belowW HGB.out hbl⟩
      case measure => simp [intOf]; omega
    · go_wp2_with fail
      go_ret
      exact ⟨_, _, rfl, hn, HX.out, HOA.out, HCA.out, HGA.out⟩
end Go.Proofs.Ytobechjagckdfaa
/-
  A box whose cells are known: any number of cells.
-/
set_option linter.unusedVariables false
set_option linter.unusedSimpArgs false
namespace Go.Proofs.Ytobechjagckdfaa
open Go.RowKit
structure BoxAt (w : World) (g : Nat) (cs : List Value) : Prop where
  lt : g < w.heap.size
  cells : ∀ i v, cs[i]? = some v → w.cell? ⟨g, i, none⟩ = some v ∧ w.frozen? ⟨g, i, none⟩ = false
theorem BoxAt.below {w w' : World} {g : Nat} {cs : List Value} (h : BoxAt w g cs) (hb : Below w.heap.size w w') : BoxAt w' g cs :=
  have hs := hb.size
  have hl := h.lt
  ⟨by omega, fun i v hi => ⟨(hb.cell (p := ⟨g, i, none⟩) hl).trans (h.cells i v hi).1, (hb.frozen (p := ⟨g, i, none⟩) hl).trans (h.cells i v hi).2⟩⟩
theorem BoxAt.touch {S : List Nat} {w w' : World} {g : Nat} {cs : List Value} (h : BoxAt w g cs) (ht : Touch S w w') (hg : g ∉ S) : BoxAt w' g cs :=
  have hs := ht.size
  have hl := h.lt
  ⟨by omega, fun i v hi => ⟨(ht.cell hl hg).trans (h.cells i v hi).1, (ht.frozen hl hg).trans (h.cells i v hi).2⟩⟩
theorem BoxAt.nil {w : World} {g : Nat} (h : g < w.heap.size) : BoxAt w g [] := ⟨h, fun i v hi => by simp at hi⟩
theorem BoxAt.snoc {w : World} {g : Nat} {cs : List Value} (h : BoxAt w g cs) {v : Value} {i : Nat} (hi : i = cs.length) (hc : w.cell? ⟨g, i, none⟩ = some v) (hf : w.frozen? ⟨g, i, none⟩ = false) : BoxAt w g (cs ++ [v]) := by
  refine ⟨h.lt, fun j u hj => ?_⟩
  rcases Nat.lt_trichotomy j cs.length with hlt | heq | hgt
  · rw [List.getElem?_append_left hlt] at hj; exact h.cells j u hj
  · subst heq; subst hi
    rw [List.getElem?_append_right (Nat.le_refl _)] at hj
    simp at hj
    subst hj
    exact ⟨hc, hf⟩
  · rw [List.getElem?_append_right (by omega)] at hj
    rw [List.getElem?_eq_none (by simp; omega)] at hj
    cases hj
end Go.Proofs.Ytobechjagckdfaa
/-
  A region that draws its order, by an invariant over the operations that are done: each operation's step is proved once.
-/
set_option linter.unusedVariables false
set_option linter.unusedSimpArgs false
namespace Go.Proofs.Ytobechjagckdfaa
section
variable {P : Program} {ops : Array Oper} {Q : Exit → Act → World → Prop} {md : Region.Mode}
theorem countP_lt {p q : Nat → Bool} {i : Nat} : ∀ {l : List Nat}, (∀ x ∈ l, q x = true → p x = true) → i ∈ l → p i = true → q i = false → l.countP q < l.countP p
  | [], _, hi, _, _ => by cases hi
  | x :: t, h, hi, hp, hq => by
    have ht : ∀ y ∈ t, q y = true → p y = true := fun y hy => h y (List.mem_cons_of_mem _ hy)
    rw [List.countP_cons, List.countP_cons]
    rcases List.mem_cons.1 hi with rfl | hi
    · have := List.countP_mono_left ht
      rw [hp, hq]; simp; omega
    · have := countP_lt ht hi hp hq
      have hx := h x (List.mem_cons_self ..)
      cases hqx : q x
      · cases p x <;> simp <;> omega
      · rw [hx hqx]; simp; omega
theorem ready_lt {listed : Array Bool} {i : Nat} (h : i ∈ Region.ready md ops listed) : i < ops.size ∧ listed.getD i true = false := by
  unfold Region.ready at h
  rw [List.mem_filter, List.mem_range, Bool.and_eq_true] at h
  exact ⟨h.1, by simpa using h.2.1⟩
theorem wpAny_of_inv (Inv : Array Bool → Act → World → Prop)
    (hs : ∀ listed a w, Inv listed a w → ∀ i, i ∈ Region.ready md ops listed → wpOp P ops Q i (fun a' w' => Inv (listed.setIfInBounds i true) a' w') a w)
    (hd : ∀ listed a w, Inv listed a w → Region.ready md ops listed = [] → Q .normal a w) :
    ∀ (fuel : Nat) (listed : Array Bool) (a : Act) (w : World), Inv listed a w → (List.range ops.size).countP (fun i => !listed.getD i true) ≤ fuel → wpAny P md ops Q fuel listed a w
  | 0, listed, a, w, hi, hc => by
    have hr : Region.ready md ops listed = [] := by
      rw [List.eq_nil_iff_forall_not_mem]
      intro i h
      have h2 := ready_lt h
      have : 0 < (List.range ops.size).countP (fun i => !listed.getD i true) := List.countP_pos_iff.2 ⟨i, List.mem_range.2 h2.1, by simp [h2.2]⟩
      omega
    exact ⟨hr, hd _ _ _ hi hr⟩
  | fuel + 1, listed, a, w, hi, hc => by
    refine ⟨fun hr => hd _ _ _ hi hr, fun i h => wpOp_mono (fun a' w' h' => wpAny_of_inv Inv hs hd fuel _ a' w' h' ?_) (hs _ _ _ hi i h)⟩
    have h2 := ready_lt h
    have hsz : i < listed.size := by
      rcases Nat.lt_or_ge i listed.size with h3 | h3
      · exact h3
      · have := h2.2; rw [Array.getD_eq_getD_getElem?, Array.getElem?_eq_none h3] at this; simp at this
    have := countP_lt (p := fun i => !listed.getD i true) (q := fun j => !(listed.setIfInBounds i true).getD j true) (i := i) (l := List.range ops.size) (fun x _ hx => by
      by_cases e : i = x
      · subst e; simp [Array.getD_eq_getD_getElem?, hsz] at hx
      · simpa [Array.getD_eq_getD_getElem?, Array.getElem?_setIfInBounds, e] using hx) (List.mem_range.2 h2.1) (by simp [h2.2]) (by simp [Array.getD_eq_getD_getElem?, hsz])
    omega
/-- The rule. -/
theorem wp_region_inv {id : Nat} {a : Act} {w : World} (hm : P.follows .mixedOrders = true) (Inv : Array Bool → Act → World → Prop)
    (h0 : Inv (Array.replicate ops.size false) a w.drew)
    (hs : ∀ listed a w, Inv listed a w → ∀ i, i ∈ Region.ready .any ops listed → wpOp P ops Q i (fun a' w' => Inv (listed.setIfInBounds i true) a' w') a w)
    (hd : ∀ listed a w, Inv listed a w → Region.ready .any ops listed = [] → Q .normal a w) : (Code.region id ops true).wp P Q a w :=
  wp_region_any hm (wpAny_of_inv Inv hs hd _ _ _ _ h0 (by
    have := List.countP_le_length (p := fun i => !(Array.replicate ops.size false).getD i true) (l := List.range ops.size)
    simpa using this))
/-- Does operation i wait for operation j? -/
def frWaits (md : Region.Mode) (ops : Array Oper) (i j : Nat) : Bool :=
  ((ops[i]?).map fun o => o.after.any fun e => Region.binds md e && e.on == j).getD false
/-- Every operation frWaits for earlier ones alone. -/
def frBackward (md : Region.Mode) (ops : Array Oper) : Bool :=
  (List.range ops.size).all fun i => ((ops[i]?).map fun o => o.after.all fun e => !Region.binds md e || decide (e.on < i)).getD true
theorem ready_waits {listed : Array Bool} {i : Nat} (h : i ∈ Region.ready md ops listed) (j : Nat) (hj : frWaits md ops i j = true) : listed.getD j false = true := by
  unfold Region.ready at h
  rw [List.mem_filter, List.mem_range, Bool.and_eq_true] at h
  have h2 := h.2.2
  unfold frWaits at hj
  cases ho : ops[i]? with
  | none => rw [ho] at hj; simp at hj
  | some o =>
    rw [ho] at hj h2
    simp only [Option.map_some, Option.getD_some, Array.any_eq_true, Array.all_eq_true] at hj h2
    obtain ⟨k, hk, hb⟩ := hj
    rw [Bool.and_eq_true, beq_iff_eq] at hb
    have := h2 k hk
    rw [hb.1, hb.2] at this
    simpa using this
theorem ready_nil {listed : Array Bool} (hb : frBackward md ops = true) (h : Region.ready md ops listed = []) : ∀ i, i < ops.size → listed.getD i true = true := by
  intro i
  induction i using Nat.strongRecOn with
  | _ i ih =>
    intro hi
    cases hl : listed.getD i true with
    | true => rfl
    | false =>
      exfalso
      have hmem : i ∈ Region.ready md ops listed := by
        unfold Region.ready
        rw [List.mem_filter, List.mem_range, Bool.and_eq_true]
        refine ⟨hi, by simp [hl], ?_⟩
        unfold frBackward at hb
        rw [List.all_eq_true] at hb
        have h1 := hb i (List.mem_range.2 hi)
        rw [Array.getElem?_eq_getElem hi] at h1 ⊢
        simp only [Option.map_some, Option.getD_some, Array.all_eq_true] at h1 ⊢
        intro k hk
        have h2 := h1 k hk
        cases hbk : Region.binds md ((ops[i]).after[k]) with
        | false => simp
        | true =>
          rw [hbk] at h2
          simp only [Bool.not_true, Bool.false_or, decide_eq_true_eq] at h2 ⊢
          have h3 := ih _ h2 (Nat.lt_trans h2 hi)
          have hsz : i < listed.size := by
            rcases Nat.lt_or_ge i listed.size with h4 | h4
            · exact h4
            · rw [Array.getD_eq_getD_getElem?, Array.getElem?_eq_none h4] at hl; simp at hl
          rw [Array.getD_eq_getD_getElem?, Array.getElem?_eq_getElem (Nat.lt_trans h2 hsz)] at h3 ⊢
          simpa using h3
      rw [h] at hmem; cases hmem
/-- The rule, of the operations that are done. -/
theorem wp_region_done {id : Nat} {a : Act} {w : World} (hm : P.follows .mixedOrders = true) (hb : frBackward .any ops = true) (Inv : (Nat → Prop) → Act → World → Prop)
    (h0 : Inv (fun _ => False) a w.drew)
    (hs : ∀ D a w, Inv D a w → (∀ i j, frWaits .any ops i j = true → D i → D j) → ∀ i, i < ops.size → ¬ D i → (∀ j, frWaits .any ops i j = true → D j) → wpOp P ops Q i (fun a' w' => Inv (fun j => j = i ∨ D j) a' w') a w)
    (hd : ∀ D a w, Inv D a w → (∀ i, i < ops.size → D i) → Q .normal a w) : (Code.region id ops true).wp P Q a w := by
  refine wp_region_inv hm (fun listed a w => listed.size = ops.size ∧ (∀ i j, frWaits .any ops i j = true → listed.getD i false = true → listed.getD j false = true) ∧ Inv (fun j => listed.getD j false = true) a w) ?_ ?_ ?_
  · refine ⟨by simp, fun i j _ h => ?_, ?_⟩
    · simp only [Array.getD_eq_getD_getElem?, Array.getElem?_replicate] at h
      split at h <;> simp at h
    · have e : (fun j => (Array.replicate ops.size false).getD j false = true) = fun _ => False := by
        funext j
        apply propext
        simp only [Array.getD_eq_getD_getElem?, Array.getElem?_replicate]
        split <;> simp
      rw [e]; exact h0
  · rintro listed a w ⟨hsz, hcl, hinv⟩ i hi
    have h2 := ready_lt hi
    have hil : i < listed.size := by omega
    have hni : ¬ listed.getD i false = true := by
      have := h2.2
      rw [Array.getD_eq_getD_getElem?, Array.getElem?_eq_getElem hil] at this ⊢
      simpa using this
    have e : (fun j => (listed.setIfInBounds i true).getD j false = true) = fun j => j = i ∨ listed.getD j false = true := by
      funext j
      apply propext
      by_cases hj : i = j
      · subst hj; simp [Array.getD_eq_getD_getElem?, hil]
      · simp only [Array.getD_eq_getD_getElem?, Array.getElem?_setIfInBounds, hj, if_false]
        exact ⟨.inr, fun h => h.resolve_left (fun e => hj e.symm)⟩
    refine wpOp_mono (fun a' w' h => ⟨by rw [Array.size_setIfInBounds]; exact hsz, ?_, by rw [e]; exact h⟩) (hs _ a w hinv hcl i h2.1 hni (fun j hj => ready_waits hi j hj))
    intro x y hxy hx
    have e1 := congrFun e x; have e2 := congrFun e y
    rw [e2]
    rw [e1] at hx
    rcases hx with rfl | hx
    · exact .inr (ready_waits hi y hxy)
    · exact .inr (hcl x y hxy hx)
  · rintro listed a w ⟨hsz, -, hinv⟩ hr
    refine hd _ a w hinv fun i hi => ?_
    have := ready_nil hb hr i hi
    rw [Array.getD_eq_getD_getElem?, Array.getElem?_eq_getElem (by omega)] at this ⊢
    simpa using this
/-! The frame: some slots hold what a function says, the others what they held. -/
def frTo (T : Array Value) (u : Nat → Value) : List Nat → Array Value
  | [] => T
  | d :: ds => (frTo T u ds).setIfInBounds d (u d)
def frAll (a0 : Act) (ds : List Nat) (u : Nat → Value) : Act := { a0 with tmps := frTo a0.tmps u ds }
def frUpd (u : Nat → Value) (d : Nat) (v : Value) : Nat → Value := fun s => if s = d then v else u s
theorem frTo_size (T : Array Value) (u : Nat → Value) : ∀ ds, (frTo T u ds).size = T.size
  | [] => rfl
  | d :: ds => by rw [frTo, Array.size_setIfInBounds, frTo_size T u ds]
theorem frTo_get (T : Array Value) (u : Nat → Value) (s : Nat) : ∀ ds, (frTo T u ds)[s]? = if s ∈ ds ∧ s < T.size then some (u s) else T[s]?
  | [] => by simp [frTo]
  | d :: ds => by
    rw [frTo, Array.getElem?_setIfInBounds, frTo_size, frTo_get T u s ds]
    by_cases e : d = s
    · subst e
      by_cases h : d < T.size
      · simp [h]
      · simp [h]
    · have : (s ∈ d :: ds) = (s ∈ ds) := by have e2 : ¬ s = d := fun x => e x.symm; simp [e2]
      simp only [e, if_false, this]
theorem frAll_eval {a0 : Act} {ds : List Nat} {u : Nat → Value} {t : Nat} (h : t ∈ ds) (hs : t < a0.tmps.size) : (frAll a0 ds u).tmps.getD t undef = u t := by
  unfold frAll
  rw [Array.getD_eq_getD_getElem?]
  dsimp only
  rw [frTo_get, if_pos ⟨h, hs⟩]; rfl
theorem frAll_other {a0 : Act} {ds : List Nat} {u : Nat → Value} {t : Nat} (h : t ∉ ds) : (frAll a0 ds u).tmps.getD t undef = a0.tmps.getD t undef := by
  unfold frAll
  rw [Array.getD_eq_getD_getElem?, Array.getD_eq_getD_getElem?]
  dsimp only
  rw [frTo_get, if_neg (fun h2 => h h2.1)]
theorem frAll_put {a0 : Act} {ds : List Nat} {u : Nat → Value} {d : Nat} (v : Value) (h : d ∈ ds) : (frAll a0 ds u).put (some d) v = frAll a0 ds (frUpd u d v) := by
  unfold frAll Act.put
  dsimp only
  congr 1
  apply Array.ext_getElem?
  intro s
  rw [Array.getElem?_setIfInBounds, frTo_size, frTo_get, frTo_get]
  by_cases e : d = s
  · subst e
    by_cases hs : d < a0.tmps.size
    · simp [hs, h, frUpd]
    · simp [hs]
  · have e2 : ¬ s = d := fun x => e x.symm
    simp [e, frUpd, e2]
theorem frAll_self (a0 : Act) (ds : List Nat) : frAll a0 ds (fun d => a0.tmps.getD d undef) = a0 := by
  unfold frAll
  have : frTo a0.tmps (fun d => a0.tmps.getD d undef) ds = a0.tmps := by
    apply Array.ext_getElem?
    intro s
    rw [frTo_get]
    split
    · rename_i h
      rw [Array.getElem?_eq_getElem h.2, Array.getD_eq_getD_getElem?, Array.getElem?_eq_getElem h.2]; rfl
    · rfl
  rw [this]
def addD (D : Nat → Prop) (i : Nat) : Nat → Prop := fun j => j = i ∨ D j
theorem addD_of {D : Nat → Prop} {i j : Nat} (h : addD D i j) (hne : j ≠ i) : D j := h.resolve_left hne
theorem addD_self {D : Nat → Prop} (i : Nat) : addD D i i := .inl rfl
theorem addD_mem {D : Nat → Prop} {i j : Nat} (h : D j) : addD D i j := .inr h
theorem frUpd_ne {u : Nat → Value} {d s : Nat} {v : Value} (h : s ≠ d) : frUpd u d v s = u s := if_neg h
theorem frUpd_self {u : Nat → Value} {d : Nat} {v : Value} : frUpd u d v d = v := if_pos rfl
/-! Facts of a frame that a step leaves as they were, or hands on: the numbers of operations that are done, that are not yet. -/
section
open Go.RowKit
variable {D : Nat → Prop} {i p q n : Nat} {X Y : Prop}
theorem k10 (h : Hid (D p → X)) (hp : p ≠ i := by decide) : Hid (addD D i p → X) := Lib.hid fun h0 => h.out (addD_of h0 hp)
theorem k20 (h : Hid (D p → D q → X)) (hp : p ≠ i := by decide) (hq : q ≠ i := by decide) : Hid (addD D i p → addD D i q → X) := Lib.hid fun h0 h1 => h.out (addD_of h0 hp) (addD_of h1 hq)
theorem k11 (h : Hid (D p → ¬ D n → X)) (hp : p ≠ i := by decide) : Hid (addD D i p → ¬ addD D i n → X) := Lib.hid fun h0 m0 => h.out (addD_of h0 hp) fun x => m0 (addD_mem x)
theorem m10 (f : X → Y) (h : Hid (D p → X)) (hp : p ≠ i := by decide) : Hid (addD D i p → Y) := Lib.hid fun h0 => f (h.out (addD_of h0 hp))
theorem m20 (f : X → Y) (h : Hid (D p → D q → X)) (hp : p ≠ i := by decide) (hq : q ≠ i := by decide) : Hid (addD D i p → addD D i q → Y) := Lib.hid fun h0 h1 => f (h.out (addD_of h0 hp) (addD_of h1 hq))
theorem m11 (f : X → Y) (h : Hid (D p → ¬ D n → X)) (hp : p ≠ i := by decide) : Hid (addD D i p → ¬ addD D i n → Y) := Lib.hid fun h0 m0 => f (h.out (addD_of h0 hp) fun x => m0 (addD_mem x))
theorem md10 (f : D p → X → Y) (h : Hid (D p → X)) (hp : p ≠ i := by decide) : Hid (addD D i p → Y) := Lib.hid fun h0 => f (addD_of h0 hp) (h.out (addD_of h0 hp))
theorem x11 : Hid (addD D i p → ¬ addD D i i → X) := Lib.hid fun _ m => absurd (addD_self i) m
theorem u10 {u : Nat → Value} {s d : Nat} {v x : Value} (h : Hid (D p → u s = v)) (hs : s ≠ d := by decide) (hp : p ≠ i := by decide) : Hid (addD D i p → frUpd u d x s = v) := Lib.hid fun h0 => (frUpd_ne hs).trans (h.out (addD_of h0 hp))
theorem lt_grow {a b c c' : Nat} (h : c ≤ c') (hx : a ≤ b ∧ b < c) : a ≤ b ∧ b < c' := ⟨hx.1, Nat.lt_of_lt_of_le hx.2 h⟩
end
theorem wp_gen {c : Code} {a : Act} {w : World} (h : ∀ a0, a0 = a → c.wp P Q a0 w) : c.wp P Q a w := h a rfl
theorem wpOp_lit {i : Nat} {K : Act → World → Prop} {a : Act} {w : World} (hi : i < ops.size) (h : ∀ o, ops[i]? = some o → ∀ K' : Act → World → Prop, (∀ a w, K a w → K' a w) → if Region.wanted o (yielded ops a.tmps) = true then Oper.wp P o a w K' Q else K' (a.put o.dst undef) w) : wpOp P ops Q i K a w :=
  wpOp_step (Array.getElem?_eq_getElem hi) (h _ (Array.getElem?_eq_getElem hi))
theorem wanted_nil (ops : Array Oper) {o : Oper} {a : Act} (hg : o.guard = none) : Region.wanted o (yielded ops a.tmps) = true := by simp [Region.wanted, hg]
/-- The rule, of a frame of which the region writes the slots ds. -/
theorem wp_region_frame {id : Nat} {a0 : Act} {w : World} (ds : List Nat) (Inv : (Nat → Prop) → (Nat → Value) → World → Prop) (hm : P.follows .mixedOrders = true) (hb : frBackward .any ops = true)
    (h0 : Inv (fun _ => False) (fun d => a0.tmps.getD d undef) w.drew)
    (hs : ∀ D u w, Inv D u w → (∀ i j, frWaits .any ops i j = true → D i → D j) → ∀ i, i < ops.size → ¬ D i → (∀ j, frWaits .any ops i j = true → D j) → wpOp P ops Q i (fun a' w' => ∃ u', a' = frAll a0 ds u' ∧ Inv (addD D i) u' w') (frAll a0 ds u) w)
    (hd : ∀ D u w, Inv D u w → (∀ i, i < ops.size → D i) → Q .normal (frAll a0 ds u) w) : (Code.region id ops true).wp P Q a0 w := by
  refine wp_region_done hm hb (fun D a w => ∃ u, a = frAll a0 ds u ∧ Inv D u w) ⟨_, (frAll_self a0 ds).symm, h0⟩ ?_ ?_
  · rintro D a w ⟨u, rfl, hi⟩ hcl i hlt hn hw
    exact hs D u w hi hcl i hlt hn hw
  · rintro D a w ⟨u, rfl, hi⟩ hall
    exact hd D u w hi hall
end
theorem touch_setC {S : List Nat} {w w' : World} {g i : Nat} {v : Value} (h : Touch S w w') (hg : g ∈ S) : Touch S w (w'.setCell ⟨g, i, none⟩ v) :=
  h.trans (grown_touch (r := some g) (grown_setCell (grown_refl w' _) _ _) (fun _ e => by cases e; exact hg))
theorem touch_bx {g : Nat} {w w' : World} {i : Nat} {v : Value} (h : Touch [g] w w') : Touch [g] w (w'.setCell ⟨g, i, none⟩ v) := touch_setC h (by simp)
end Go.Proofs.Ytobechjagckdfaa
