/-
  The draws: what is needed of the cursor over the bytes of a draw is that it stays one, and that its numbers lie where they should.
-/
import Derived.Test.YtkdafincnmkjnaaScal
import Derived.Test.YtkdafincnmkjnaaOwn
set_option linter.unusedVariables false
set_option linter.unusedSimpArgs false
namespace Go.Proofs.Ytkdafincnmkjnaa
open Go.RowKit

/-- A slice of n bytes, below block B. -/
def BytesAt (B : Nat) (w : World) (v : Value) (n : Nat) : Prop :=
  ∃ ao cap, v = .slice ao n cap ∧ n ≤ 9223372036854775807 ∧ ∀ j, j < n → ∃ b o x, ao = some ⟨b, o, none⟩ ∧ b < B ∧ w.cell? ⟨b, o + j, none⟩ = some (.int .u8 x) ∧ 0 ≤ x ∧ x ≤ 255
/-- Block g is a cursor; what it reads lies below block B. -/
def Cur (B : Nat) (w : World) (g : Nat) : Prop :=
  B ≤ g ∧ g < w.heap.size ∧ ∃ v n h, ∃ i : Nat, w.cell? ⟨g, 0, none⟩ = some v ∧ w.cell? ⟨g, 1, none⟩ = some (.int .i64 i) ∧ w.cell? ⟨g, 2, none⟩ = some (.int .i64 h) ∧ w.frozen? ⟨g, 1, none⟩ = false ∧ w.frozen? ⟨g, 2, none⟩ = false ∧ i ≤ n ∧ BytesAt B w v n
theorem BytesAt.stays {B : Nat} {w w' : World} {v : Value} {n : Nat} (h : BytesAt B w v n) (hs : ∀ k, k < B → w'.heap[k]? = w.heap[k]?) : BytesAt B w' v n := by
  obtain ⟨ao, cap, rfl, hn, hj⟩ := h
  refine ⟨ao, cap, rfl, hn, fun j hlt => ?_⟩
  obtain ⟨b, o, x, h1, h2, h3, h4⟩ := hj j hlt
  exact ⟨b, o, x, h1, h2, (World.cell?_of_block (w := w) (hs b h2)).trans h3, h4⟩
theorem Cur.lt {B : Nat} {w : World} {g : Nat} (h : Cur B w g) : g < w.heap.size := h.2.1
theorem Cur.stays {B : Nat} {w w' : World} {g : Nat} (h : Cur B w g) (hsz : w.heap.size ≤ w'.heap.size) (hs : ∀ k, k < B ∨ k = g → w'.heap[k]? = w.heap[k]?) : Cur B w' g := by
  obtain ⟨h1, h2, v, n, h, i, c0, c1, c2, f1, f2, hi, hb⟩ := h
  have hc : ∀ o, w'.cell? ⟨g, o, none⟩ = w.cell? ⟨g, o, none⟩ := fun o => World.cell?_of_block (w := w) (hs g (.inr rfl))
  have hf : ∀ o, w'.frozen? ⟨g, o, none⟩ = w.frozen? ⟨g, o, none⟩ := fun o => World.frozen?_of_block (w := w) (hs g (.inr rfl))
  exact ⟨h1, by omega, v, n, h, i, (hc 0).trans c0, (hc 1).trans c1, (hc 2).trans c2, (hf 1).trans f1, (hf 2).trans f2, hi, hb.stays fun k hk => hs k (.inl hk)⟩
theorem Cur.below {B : Nat} {w w' : World} {g : Nat} (h : Cur B w g) (hb : Below w.heap.size w w') : Cur B w' g :=
  h.stays hb.size fun k hk => hb.block k (by have h1 := h.1; have h2 := h.2.1; omega)
/-- What a call on a cursor leaves: a number, the cursor, and nothing else turned. -/
def Drawn (B : Nat) (w : World) (g : Nat) (P : Int → Prop) (e : Ending) (w' : World) : Prop := ∃ x, P x ∧ e = .returned (.int .i64 x) ∧ Cur B w' g ∧ w.grownBy w' (some g)
theorem and255 (n : Int) : bits .and .i64 n 255 = n % 256 := by
  have h255 : (BitVec.ofInt 64 255).toNat = 2 ^ 8 - 1 := by decide
  have key : (BitVec.ofInt 64 n &&& BitVec.ofInt 64 255).toNat = (n % ((2 ^ 64 : Nat) : Int)).toNat % 2 ^ 8 := by
    rw [BitVec.toNat_and, BitVec.toNat_ofInt, h255, Nat.and_two_pow_sub_one_eq_mod]
  show IntKind.i64.wrap ((BitVec.ofInt 64 n &&& BitVec.ofInt 64 255).toNat : Nat) = n % 256
  rw [key, IntKind.wrap_i64]
  omega
theorem and255_in (n : Int) : 0 ≤ bits .and .i64 n 255 ∧ bits .and .i64 n 255 ≤ 255 := by rw [and255]; omega
/-- The cursor behind some steps that have turned its own block alone. -/
theorem cur_of {B g : Nat} {w w' : World} {ao : Option Addr} {n cap i : Nat} {h : Int} (hBg : B ≤ g) (hg : g < w.heap.size) (hgr : w.grownBy w' (some g)) (hb : BytesAt B w (.slice ao n cap) n) (hi : i ≤ n) (c0 : w'.cell? ⟨g, 0, none⟩ = some (.slice ao n cap)) (c1 : w'.cell? ⟨g, 1, none⟩ = some (.int .i64 i)) (c2 : w'.cell? ⟨g, 2, none⟩ = some (.int .i64 h))
    (f1 : w'.frozen? ⟨g, 1, none⟩ = false) (f2 : w'.frozen? ⟨g, 2, none⟩ = false) : Cur B w' g :=
  ⟨hBg, Nat.lt_of_lt_of_le hg hgr.size, _, n, h, i, c0, c1, c2, f1, f2, hi, hb.stays fun k hk => hgr.block k (by omega) (by simp; omega)⟩

theorem s_l01Byte (B g : Nat) (w : World) (hcur : Cur B w g) : Calls Try.prog 124 #[.pointer (some ⟨g, 0, none⟩)] w (Drawn B w g fun x => 0 ≤ x ∧ x ≤ 255) := by
  obtain ⟨hBg, hg, v, n, h, i, c0, c1, c2, f1, f2, hi, hbytes⟩ := hcur
  obtain ⟨ao, cap, rfl, hn, hbs⟩ := hbytes
  have HB : Hid (BytesAt B w (.slice ao n cap) n) := ⟨ao, cap, rfl, hn, hbs⟩
  have hall : allLt [g] w.heap.size := ⟨hg, trivial⟩
  have hx := hall
  simp only [allLt, and_true] at hx
  by_cases hlt : i < n
  · obtain ⟨b, o, x, rfl, hbB, hbc, hx0, hx1⟩ := hbs i hlt
    clear hbs
    have hne : ¬ g = b := by omega
    have hlt' : (i : Int) < n := by omega
    have hbz : b < w.heap.size := by omega
    replace hall : allLt [g, b] w.heap.size := ⟨hg, hbz, trivial⟩
    go_enter Try.func124, Try.ntmps124
    go_wp2_with (first | (with_reducible refine wp_region_grew2 (by kernel_rfl) (by kernel_rfl) ?_; intro w2 hb; (first | have hn := nw4 hb hall (by exact zo) | have hn := nw3 hb hall (by exact zo) | have hn := nw2 hb hall (by exact zo) | have hn := nw1 hb hall (by exact zo) | have hn := nw0 hb hall (by exact zo)); obtain ⟨hc, hf, hn, hc0⟩ := hn; replace hall := hn; clear hn; have hz := hb.size; (try simp only [World.size_alloc, World.size_setCell, World.size_drew] at hz); have hx := hall; (try simp only [allLt, and_true] at hx); obtain ⟨w1, rfl⟩ : ∃ x, x = w2 := ⟨_, rfl⟩; (repeat (go_big_quiet_step (fail))); refine wpQuiet_nil ?_; intro w2 hw'; have hb := grew_below hw'; clear hw'; (first | have hn := nw4 hb hall (by exact zo) | have hn := nw3 hb hall (by exact zo) | have hn := nw2 hb hall (by exact zo) | have hn := nw1 hb hall (by exact zo) | have hn := nw0 hb hall (by exact zo)); obtain ⟨hc, hf, hn, hc0⟩ := hn; replace hall := hn; clear hn; have hz := hb.size; (try simp only [World.size_alloc, World.size_setCell, World.size_drew] at hz); have hx := hall; (try simp only [allLt, and_true] at hx); obtain ⟨w1, rfl⟩ : ∃ x, x = w2 := ⟨_, rfl⟩))
    all_goals (go_ret; refine ⟨_, and255_in _, rfl, ?_⟩)
    all_goals refine (fun hgr => ⟨cur_of (i := i + 1) (h := wrap64 (wrap64 (h * 6364136223846793005) + 1442695040888963407)) hBg hg hgr HB.out (by omega) ?_ ?_ ?_ ?_ ?_, hgr⟩) (by (repeat (first | exact grown_refl _ _ | refine grown_setCell ?_ _ _ | refine grown_trans ?_ (by assumption) | refine grown_below ?_ (by assumption))))
    all_goals first | (go_simp; done) | (go_simp; go_num)
  · have hlt' : ¬ (i : Int) < n := by omega
    clear hbs
    go_enter Try.func124, Try.ntmps124
    go_wp2_with (first | (with_reducible refine wp_region_grew2 (by kernel_rfl) (by kernel_rfl) ?_; intro w2 hb; (first | have hn := nw4 hb hall (by exact zo) | have hn := nw3 hb hall (by exact zo) | have hn := nw2 hb hall (by exact zo) | have hn := nw1 hb hall (by exact zo) | have hn := nw0 hb hall (by exact zo)); obtain ⟨hc, hf, hn, hc0⟩ := hn; replace hall := hn; clear hn; have hz := hb.size; (try simp only [World.size_alloc, World.size_setCell, World.size_drew] at hz); have hx := hall; (try simp only [allLt, and_true] at hx); obtain ⟨w1, rfl⟩ : ∃ x, x = w2 := ⟨_, rfl⟩; (repeat (go_big_quiet_step (fail))); refine wpQuiet_nil ?_; intro w2 hw'; have hb := grew_below hw'; clear hw'; (first | have hn := nw4 hb hall (by exact zo) | have hn := nw3 hb hall (by exact zo) | have hn := nw2 hb hall (by exact zo) | have hn := nw1 hb hall (by exact zo) | have hn := nw0 hb hall (by exact zo)); obtain ⟨hc, hf, hn, hc0⟩ := hn; replace hall := hn; clear hn; have hz := hb.size; (try simp only [World.size_alloc, World.size_setCell, World.size_drew] at hz); have hx := hall; (try simp only [allLt, and_true] at hx); obtain ⟨w1, rfl⟩ : ∃ x, x = w2 := ⟨_, rfl⟩))
    all_goals (go_ret; refine ⟨_, and255_in _, rfl, ?_⟩)
    all_goals refine (fun hgr => ⟨cur_of (i := i) (h := wrap64 (wrap64 (h * 6364136223846793005) + 1442695040888963407)) hBg hg hgr HB.out (by omega) ?_ ?_ ?_ ?_ ?_, hgr⟩) (by (repeat (first | exact grown_refl _ _ | refine grown_setCell ?_ _ _ | refine grown_trans ?_ (by assumption) | refine grown_below ?_ (by assumption))))
    all_goals first | (go_simp; done) | (go_simp; go_num)
def InBelow (n x : Int) : Prop := 0 ≤ x ∧ (0 < n → x < n) ∧ (n ≤ 0 → x = 0)
theorem mod_in {x n : Int} (h0 : 0 ≤ x) (hx : x ≤ 9223372036854775807) (hn : 0 < n) : wrap64 (x % n) = x % n ∧ InBelow n (x % n) := by
  have h1 := Int.emod_nonneg x (show n ≠ 0 by omega)
  have h2 := Int.emod_lt_of_pos x hn
  have h3 : x % n ≤ x := by
    rcases Int.lt_or_le x n with h | h
    · rw [Int.emod_eq_of_lt h0 h]; omega
    · omega
  exact ⟨IntWalk.wrap64_in _ ⟨by omega, by omega⟩, h1, fun _ => h2, fun h => by omega⟩
theorem s_l01Below (B g : Nat) (n : Int) (w : World) (hcur : Cur B w g) : Calls Try.prog 96 #[.pointer (some ⟨g, 0, none⟩), .int .i64 n] w (Drawn B w g (InBelow n)) := by
  by_cases h1 : n ≤ 0
  · go_enter Try.func96, Try.ntmps96
    go_wp2_with (go_at_call 124; refine (s_l01Byte B g _ hcur).mono ?_; rintro e w2 ⟨x, hx, rfl, hcur, hgr⟩)
    go_ret
    exact ⟨0, ⟨Int.le_refl _, fun h => by omega, fun _ => rfl⟩, rfl, hcur, grown_refl _ _⟩
  · by_cases h2 : n ≤ 256
    · go_enter Try.func96, Try.ntmps96
      go_wp2_with fail
      refine (s_l01Byte B g _ hcur).mono ?_; rintro e wa ⟨x, hx, rfl, hcur1, hgr1⟩
      have HM := Lib.hid (mod_in (x := x) (n := n) (by omega) (by omega) (by omega))
      have HG := Lib.hid hgr1
      clear hgr1 hcur
      go_wp2_with fail
      go_ret
      exact ⟨_, HM.out.2, by simp [HM.out.1], hcur1, HG.out⟩
    · go_enter Try.func96, Try.ntmps96
      go_wp2_with fail
      refine (s_l01Byte B g _ hcur).mono ?_; rintro e wa ⟨x1, hx1, rfl, hcur1, hgr1⟩
      go_wp2_with fail
      refine (s_l01Byte B g _ hcur1).mono ?_; rintro e wb ⟨x2, hx2, rfl, hcur2, hgr2⟩
      go_wp2_with fail
      refine (s_l01Byte B g _ hcur2).mono ?_; rintro e wc ⟨x3, hx3, rfl, hcur3, hgr3⟩
      go_wp2_with fail
      refine (s_l01Byte B g _ hcur3).mono ?_; rintro e wd ⟨x4, hx4, rfl, hcur4, hgr4⟩
      have HG : Hid (w.grownBy wd (some g)) := grown_trans (grown_trans (grown_trans hgr1 hgr2) hgr3) hgr4
      clear hgr1 hgr2 hgr3 hgr4 hcur hcur1 hcur2 hcur3
      have M := mod_in (x := x1 * 16777216 + x2 * 65536 + x3 * 256 + x4) (by omega) (by omega) (show 0 < n by omega)
      have HM := Lib.hid M; clear M
      go_wp2_with fail
      go_ret
      exact ⟨_, HM.out.2, by simp [HM.out.1], hcur4, HG.out⟩
def NewCur (w : World) (e : Ending) (w' : World) : Prop := ∃ g, e = .returned (.pointer (some ⟨g, 0, none⟩)) ∧ Cur w.heap.size w' g ∧ Below w.heap.size w w'
theorem s_l01New (v : Value) (n : Nat) (w : World) (hv : BytesAt w.heap.size w v n) : Calls Try.prog 75 #[v] w (NewCur w) := by
  have HV := Lib.hid hv
  obtain ⟨ao, cap, rfl, hn, hb⟩ := hv
  have hall := all_nil w
  go_enter Try.func75, Try.ntmps75
  go_wp2_with (first | (with_reducible refine wp_region_grew2 (by kernel_rfl) (by kernel_rfl) ?_; intro w2 hb; (first | have hn := nw4 hb hall (by exact zo) | have hn := nw3 hb hall (by exact zo) | have hn := nw2 hb hall (by exact zo) | have hn := nw1 hb hall (by exact zo) | have hn := nw0 hb hall (by exact zo)); obtain ⟨hc, hf, hn, hc0⟩ := hn; replace hall := hn; clear hn; have hz := hb.size; (try simp only [World.size_alloc, World.size_setCell, World.size_drew] at hz); have hx := hall; (try simp only [allLt, and_true] at hx); obtain ⟨w1, rfl⟩ : ∃ x, x = w2 := ⟨_, rfl⟩; (repeat (go_big_quiet_step (fail))); refine wpQuiet_nil ?_; intro w2 hw'; have hb := grew_below hw'; clear hw'; (first | have hn := nw4 hb hall (by exact zo) | have hn := nw3 hb hall (by exact zo) | have hn := nw2 hb hall (by exact zo) | have hn := nw1 hb hall (by exact zo) | have hn := nw0 hb hall (by exact zo)); obtain ⟨hc, hf, hn, hc0⟩ := hn; replace hall := hn; clear hn; have hz := hb.size; (try simp only [World.size_alloc, World.size_setCell, World.size_drew] at hz); have hx := hall; (try simp only [allLt, and_true] at hx); obtain ⟨w1, rfl⟩ : ∃ x, x = w2 := ⟨_, rfl⟩))
  go_loop [3, 4] (fun h i => ∃ k : Nat, ∃ h' : Int, k ≤ n ∧ i = .int .i64 k ∧ h = .int .i64 h') (fun _ i => n - (intOf i).toNat)
  case atStart => exact ⟨0, _, Nat.zero_le _, rfl, rfl⟩
  case round =>
    obtain ⟨k, h, hk, rfl, rfl⟩ := hrel
    have fin : ∀ (h : Int), NewCur w (.returned (.pointer (some ⟨w.heap.size, 0, none⟩))) (w.alloc (.cells #[.slice ao n cap, .int .i64 0, .int .i64 h] 131)) := fun h =>
      have hb : Below w.heap.size w (w.alloc (.cells #[.slice ao n cap, .int .i64 0, .int .i64 h] 131)) := (Below.refl _ _).alloc (Nat.le_refl _) _
      ⟨w.heap.size, rfl, ⟨Nat.le_refl _, by simp, .slice ao n cap, n, h, 0, by go_simp, by go_simp, by go_simp, by go_simp, by go_simp, Nat.zero_le _, HV.out.stays fun i hi => hb.block i hi⟩, hb⟩
    have HF := Lib.hid fin; clear fin
    by_cases hlt : k < n
    · obtain ⟨b, o, x, rfl, _, hbc, hx0, hx1⟩ := hb k hlt
      clear hb
      have hlt' : (k : Int) < n := by omega
      by_cases h4 : k < 4000
      · have h4' : (k : Int) < 4000 := by omega
        go_wp2_with (first | (with_reducible refine wp_region_grew2 (by kernel_rfl) (by kernel_rfl) ?_; intro w2 hb; (first | have hn := nw4 hb hall (by exact zo) | have hn := nw3 hb hall (by exact zo) | have hn := nw2 hb hall (by exact zo) | have hn := nw1 hb hall (by exact zo) | have hn := nw0 hb hall (by exact zo)); obtain ⟨hc, hf, hn, hc0⟩ := hn; replace hall := hn; clear hn; have hz := hb.size; (try simp only [World.size_alloc, World.size_setCell, World.size_drew] at hz); have hx := hall; (try simp only [allLt, and_true] at hx); obtain ⟨w1, rfl⟩ : ∃ x, x = w2 := ⟨_, rfl⟩; (repeat (go_big_quiet_step (fail))); refine wpQuiet_nil ?_; intro w2 hw'; have hb := grew_below hw'; clear hw'; (first | have hn := nw4 hb hall (by exact zo) | have hn := nw3 hb hall (by exact zo) | have hn := nw2 hb hall (by exact zo) | have hn := nw1 hb hall (by exact zo) | have hn := nw0 hb hall (by exact zo)); obtain ⟨hc, hf, hn, hc0⟩ := hn; replace hall := hn; clear hn; have hz := hb.size; (try simp only [World.size_alloc, World.size_setCell, World.size_drew] at hz); have hx := hall; (try simp only [allLt, and_true] at hx); obtain ⟨w1, rfl⟩ : ∃ x, x = w2 := ⟨_, rfl⟩))
        go_round
        case rel => exact ⟨k + 1, _, by omega, by go_num, rfl⟩
        case measure => simp [intOf]; omega
      · have h4' : ¬ (k : Int) < 4000 := by omega
        go_wp2_with (first | (with_reducible refine wp_region_grew2 (by kernel_rfl) (by kernel_rfl) ?_; intro w2 hb; (first | have hn := nw4 hb hall (by exact zo) | have hn := nw3 hb hall (by exact zo) | have hn := nw2 hb hall (by exact zo) | have hn := nw1 hb hall (by exact zo) | have hn := nw0 hb hall (by exact zo)); obtain ⟨hc, hf, hn, hc0⟩ := hn; replace hall := hn; clear hn; have hz := hb.size; (try simp only [World.size_alloc, World.size_setCell, World.size_drew] at hz); have hx := hall; (try simp only [allLt, and_true] at hx); obtain ⟨w1, rfl⟩ : ∃ x, x = w2 := ⟨_, rfl⟩; (repeat (go_big_quiet_step (fail))); refine wpQuiet_nil ?_; intro w2 hw'; have hb := grew_below hw'; clear hw'; (first | have hn := nw4 hb hall (by exact zo) | have hn := nw3 hb hall (by exact zo) | have hn := nw2 hb hall (by exact zo) | have hn := nw1 hb hall (by exact zo) | have hn := nw0 hb hall (by exact zo)); obtain ⟨hc, hf, hn, hc0⟩ := hn; replace hall := hn; clear hn; have hz := hb.size; (try simp only [World.size_alloc, World.size_setCell, World.size_drew] at hz); have hx := hall; (try simp only [allLt, and_true] at hx); obtain ⟨w1, rfl⟩ : ∃ x, x = w2 := ⟨_, rfl⟩))
        go_ret
        exact HF.out _
    · have hlt' : ¬ (k : Int) < n := by omega
      clear hb
      go_wp2_with (first | (with_reducible refine wp_region_grew2 (by kernel_rfl) (by kernel_rfl) ?_; intro w2 hb; (first | have hn := nw4 hb hall (by exact zo) | have hn := nw3 hb hall (by exact zo) | have hn := nw2 hb hall (by exact zo) | have hn := nw1 hb hall (by exact zo) | have hn := nw0 hb hall (by exact zo)); obtain ⟨hc, hf, hn, hc0⟩ := hn; replace hall := hn; clear hn; have hz := hb.size; (try simp only [World.size_alloc, World.size_setCell, World.size_drew] at hz); have hx := hall; (try simp only [allLt, and_true] at hx); obtain ⟨w1, rfl⟩ : ∃ x, x = w2 := ⟨_, rfl⟩; (repeat (go_big_quiet_step (fail))); refine wpQuiet_nil ?_; intro w2 hw'; have hb := grew_below hw'; clear hw'; (first | have hn := nw4 hb hall (by exact zo) | have hn := nw3 hb hall (by exact zo) | have hn := nw2 hb hall (by exact zo) | have hn := nw1 hb hall (by exact zo) | have hn := nw0 hb hall (by exact zo)); obtain ⟨hc, hf, hn, hc0⟩ := hn; replace hall := hn; clear hn; have hz := hb.size; (try simp only [World.size_alloc, World.size_setCell, World.size_drew] at hz); have hx := hall; (try simp only [allLt, and_true] at hx); obtain ⟨w1, rfl⟩ : ∃ x, x = w2 := ⟨_, rfl⟩))
      go_ret
      exact HF.out _
end Go.Proofs.Ytkdafincnmkjnaa
