/-
  The pairs that are found greedily, by the reference.
-/
import Derived.Test.YtkdafincnmkjnaaGreedy
import Derived.Test.YtkdafincnmkjnaaKDef
set_option linter.unusedVariables false
set_option linter.unusedSimpArgs false
namespace Go.Proofs.Ytkdafincnmkjnaa
open Go.RowKit
def usedOf (out : List Pr) (n : Nat) : List Bool := (List.range n).map fun i => takenB out (i : Nat)
theorem usedOf_set (out : List Pr) (n a b : Nat) (ha : a < n) (hb : b < n) : ((usedOf out n).set a true).set b true = usedOf (out ++ [⟨(a : Int), (b : Int)⟩]) n := by
  apply List.ext_getElem
  · simp [usedOf]
  · intro i h1 h2
    have hi : i < n := by simpa [usedOf] using h2
    rw [List.getElem_set, List.getElem_set]
    simp only [usedOf, List.getElem_map, List.getElem_range, takenB_snoc, hitP]
    have e1 : ((a : Int) == (i : Int)) = decide (a = i) := by rw [Bool.eq_iff_iff]; simp; omega
    have e2 : ((b : Int) == (i : Int)) = decide (b = i) := by rw [Bool.eq_iff_iff]; simp; omega
    rw [e1, e2]
    by_cases h3 : b = i
    · simp [h3]
    · by_cases h4 : a = i
      · simp [h3, h4]
      · simp [h3, h4]
theorem usedOf_get (out : List Pr) (n i : Nat) (h : i < n) : (usedOf out n)[i]? = some (takenB out i) := by
  rw [List.getElem?_eq_getElem (by simpa [usedOf] using h)]; simp [usedOf]
theorem own_ne {gu g n : Nat} {v : Value} (hg : (Value.slice (some ⟨gu, 0, none⟩) n n).ownBlock = some g) (hne : v.ownBlock ≠ some gu) (e : some g = v.ownBlock) : False := by
  have h1 : gu = g := by simpa [Value.ownBlock] using hg
  subst h1; exact hne e.symm
theorem usedOf_nil (n : Nat) : usedOf [] n = List.replicate n false := by
  apply List.ext_getElem
  · simp [usedOf]
  · intro i h1 h2; simp [usedOf, takenB_nil]
set_option maxRecDepth 20000 in
set_option maxHeartbeats 3200000 in
theorem s_GreedyPairs (va : Value) (xs : List Sp) (w : World) (ha : SpansAt w va xs) : Calls Try.prog 33 #[va] w (NewPr w (greedy xs)) := by
  obtain ⟨ao, ca, rfl, hn, hm, hra⟩ := ha.open
  have hle : xs.length ≤ 9223372036854775807 := by unfold maxLen at hm; omega
  clear hm
  have HA := Lib.hid hra; clear hra ha
  by_cases h16 : 16 < xs.length
  · have h17 : (16 : Int) < xs.length := by omega
    rw [show greedy xs = [] by unfold greedy; rw [if_pos h16]]
    (have hall := all_nil w; go_enter Try.func33, Try.ntmps33)
    go_wp2_with (first | (with_reducible refine wp_region_grew2 (by kernel_rfl) (by kernel_rfl) ?_; intro w2 hb; (first | have hn := nw4 hb hall (by exact zo) | have hn := nw3 hb hall (by exact zo) | have hn := nw2 hb hall (by exact zo) | have hn := nw1 hb hall (by exact zo) | have hn := nw0 hb hall (by exact zo)); obtain ⟨hc, hf, hn, hc0⟩ := hn; replace hall := hn; clear hn; have hz := hb.size; (try simp only [World.size_alloc, World.size_setCell, World.size_drew] at hz); have hx := hall; (try simp only [allLt, and_true] at hx); obtain ⟨w1, rfl⟩ : ∃ x, x = w2 := ⟨_, rfl⟩; (repeat (go_big_quiet_step (fail))); refine wpQuiet_nil ?_; intro w2 hw'; have hb := grew_below hw'; clear hw'; (first | have hn := nw4 hb hall (by exact zo) | have hn := nw3 hb hall (by exact zo) | have hn := nw2 hb hall (by exact zo) | have hn := nw1 hb hall (by exact zo) | have hn := nw0 hb hall (by exact zo)); obtain ⟨hc, hf, hn, hc0⟩ := hn; replace hall := hn; clear hn; have hz := hb.size; (try simp only [World.size_alloc, World.size_setCell, World.size_drew] at hz); have hx := hall; (try simp only [allLt, and_true] at hx); obtain ⟨w1, rfl⟩ : ∃ x, x = w2 := ⟨_, rfl⟩))
    go_ret
    exact ⟨_, rfl, Own.empty' _ _ _ _ _ _ rfl (by exact zo), by exact bel⟩
  · have h17 : ¬ (16 : Int) < xs.length := by omega
    have hgr := gAllP_le xs (by omega)
    have HGA := Lib.hid hgr; clear hgr
    rw [show greedy xs = gAllP xs xs.length by unfold greedy; rw [if_neg h16]]
    have hx16 : xs.length ≤ 16 := by omega
    (have hall := all_nil w; go_enter Try.func33, Try.ntmps33)
    go_wp2_with (at_make; refine make1 elemBool rfl _ _ rfl zeroBool .i64 .i64 xs.length rfl rfl (by omega) (by unfold maxLen; omega) ?_; intro v2 w2 hv hown hb)
    subst hv
    simp only [World.size_alloc] at hown
    obtain ⟨gu, hgu⟩ : ∃ g, g = w.heap.size + 1 := ⟨_, rfl⟩
    rw [← hgu] at hown ⊢
    rw [← usedOf_nil] at hown
    have hsz0 := hb.size; simp only [World.size_alloc] at hsz0
    have OU := Lib.hid (hown.mono (B' := w.heap.size) (by omega))
    have hxgu : gu < w2.heap.size := (hown.lt gu rfl).2
    have OV := Lib.hid (Own.below (Own.empty' 66 2 fPr w.heap.size w w.heap.size rfl (Nat.le_refl _)) hb)
    have HB := Lib.hid (show Below w.heap.size w w2 from ((Below.refl _ _).alloc (Nat.le_refl _) _).trans (hb.mono (by simp)))
    have hgw : w.heap.size ≠ gu := by omega
    have hwgu : w.heap.size ≤ gu := by omega
    clear hown hb hgu hsz0
    go_wp2_with fail
    go_loopw [3, 5] (fun s i wr => ∃ (k : Nat) (vo : Option Addr) (vc : Nat), k ≤ xs.length ∧ i = .int .i64 k ∧ s = .slice vo (gAllP xs k).length vc ∧ OwnPr w.heap.size wr (.slice vo (gAllP xs k).length vc) (gAllP xs k) ∧ (Value.slice vo (gAllP xs k).length vc).ownBlock ≠ some gu ∧ OwnB w.heap.size wr (.slice (some ⟨gu, 0, none⟩) xs.length xs.length) (usedOf (gAllP xs k) xs.length) ∧ Below w.heap.size w wr) (fun _ i _ => xs.length - (intOf i).toNat)
    case atStart => exact ⟨0, _, _, Nat.zero_le _, rfl, rfl, OV.out, (fun e => hgw (by simpa [Value.ownBlock] using e)), OU.out, HB.out⟩
    case round =>
      clear OU OV HB hxgu
      obtain ⟨k, vo, vc, hk, rfl, rfl, hown, hnb, hou, hbel⟩ := hrel
      have HL := Lib.hid hbel; have hsz := hbel.size; clear hbel
      have OV := Lib.hid hown; have OU := Lib.hid hou; have HNE := Lib.hid hnb
      clear hown hou hnb
      by_cases hlt : k < xs.length
      · have hlt' : (k : Int) < xs.length := by omega
        obtain ⟨ga, oa, haoa, hga, a0, a1, a2⟩ := HA.out k hlt
        subst haoa
        replace a0 := (HL.out.cell (p := ⟨ga, oa + k * 3, none⟩) (by first | exact hga | assumption)).trans a0
        replace a1 := (HL.out.cell (p := ⟨ga, oa + k * 3 + 1, none⟩) (by first | exact hga | assumption)).trans a1
        replace a2 := (HL.out.cell (p := ⟨ga, oa + k * 3 + 2, none⟩) (by first | exact hga | assumption)).trans a2
        obtain ⟨a, hea⟩ : ∃ x, x = xs.getD k default := ⟨_, rfl⟩
        rw [← hea] at a0 a1 a2
        have Ha := Lib.hid hea; clear hea
        (obtain ⟨w1, rfl⟩ : ∃ x, x = wr := ⟨_, rfl⟩; have hall : allLt [ga] w1.heap.size := ⟨by omega, trivial⟩; have hx := hall; (try simp only [allLt, and_true] at hx))
        go_wp2_with (first | (with_reducible refine wp_region_grew2 (by kernel_rfl) (by kernel_rfl) ?_; intro w2 hb; (first | have hn := nw4 hb hall (by exact zo) | have hn := nw3 hb hall (by exact zo) | have hn := nw2 hb hall (by exact zo) | have hn := nw1 hb hall (by exact zo) | have hn := nw0 hb hall (by exact zo)); obtain ⟨hc, hf, hn, hc0⟩ := hn; replace hall := hn; clear hn; have hz := hb.size; (try simp only [World.size_alloc, World.size_setCell, World.size_drew] at hz); have hx := hall; (try simp only [allLt, and_true] at hx); obtain ⟨w1, rfl⟩ : ∃ x, x = w2 := ⟨_, rfl⟩; (repeat (go_big_quiet_step (fail))); refine wpQuiet_nil ?_; intro w2 hw'; have hb := grew_below hw'; clear hw'; (first | have hn := nw4 hb hall (by exact zo) | have hn := nw3 hb hall (by exact zo) | have hn := nw2 hb hall (by exact zo) | have hn := nw1 hb hall (by exact zo) | have hn := nw0 hb hall (by exact zo)); obtain ⟨hc, hf, hn, hc0⟩ := hn; replace hall := hn; clear hn; have hz := hb.size; (try simp only [World.size_alloc, World.size_setCell, World.size_drew] at hz); have hx := hall; (try simp only [allLt, and_true] at hx); obtain ⟨w1, rfl⟩ : ∃ x, x = w2 := ⟨_, rfl⟩))
        go_loopw [3, 6] (fun s i wr => ∃ (n : Nat) (vo : Option Addr) (vc : Nat), k + 1 ≤ n ∧ n ≤ xs.length ∧ i = .int .i64 n ∧ s = .slice vo (gRowP xs k (gAllP xs k) (n - (k + 1))).length vc ∧ OwnPr w.heap.size wr (.slice vo (gRowP xs k (gAllP xs k) (n - (k + 1))).length vc) (gRowP xs k (gAllP xs k) (n - (k + 1))) ∧ (Value.slice vo (gRowP xs k (gAllP xs k) (n - (k + 1))).length vc).ownBlock ≠ some gu ∧ OwnB w.heap.size wr (.slice (some ⟨gu, 0, none⟩) xs.length xs.length) (usedOf (gRowP xs k (gAllP xs k) (n - (k + 1))) xs.length) ∧ Below w.heap.size w wr) (fun _ i _ => xs.length - (intOf i).toNat)
        case atStart =>
          have hL := HL.out; have hLs := hL.size
          exact ⟨k + 1, vo, vc, Nat.le_refl _, hlt, by go_num, by simp [gRowP], by simpa [gRowP] using Own.below OV.out (by exact bel), by simpa [gRowP] using HNE.out, by simpa [gRowP] using Own.below OU.out (by exact bel), by exact bel⟩
        case round =>
          clear OV OU HNE
          obtain ⟨n, vo, vc, hn1, hn2, rfl, rfl, hown, hnb, hou, hbel⟩ := hrel
          clear a0 a1 a2
          have HL2 := Lib.hid hbel; have hsz2 := hbel.size; clear hbel
          have OV := Lib.hid hown; have OU := Lib.hid hou; have HNE := Lib.hid hnb
          clear hown hou hnb
          have HG := Lib.hid (gRowP_step xs k n (gAllP xs k) hn1)
          have hlo : (gRowP xs k (gAllP xs k) (n - (k + 1))).length ≤ 512 := by have h1 := HGA.out k; have h2 := gRowP_le xs k (gAllP xs k) (n - (k + 1)); omega
          by_cases hlm : n < xs.length
          · have hlm' : (n : Int) < xs.length := by omega
            generalize gRowP xs k (gAllP xs k) (n - (k + 1)) = out at *
            obtain ⟨gaa, oaa, haoaa, hgaa, aa0, aa1, aa2⟩ := HA.out k hlt
            (simp only [Option.some.injEq, Addr.mk.injEq, and_true] at haoaa; obtain ⟨rfl, rfl⟩ := haoaa)
            replace aa0 := (HL2.out.cell (p := ⟨ga, oa + k * 3, none⟩) (by first | exact hgaa | assumption)).trans aa0
            replace aa1 := (HL2.out.cell (p := ⟨ga, oa + k * 3 + 1, none⟩) (by first | exact hgaa | assumption)).trans aa1
            replace aa2 := (HL2.out.cell (p := ⟨ga, oa + k * 3 + 2, none⟩) (by first | exact hgaa | assumption)).trans aa2
            obtain ⟨aa, heaa⟩ : ∃ x, x = xs.getD k default := ⟨_, rfl⟩
            rw [← heaa] at aa0 aa1 aa2
            have Haa := Lib.hid heaa; clear heaa
            obtain ⟨gb, ob, haob, hgb, b0, b1, b2⟩ := HA.out n hlm
            (simp only [Option.some.injEq, Addr.mk.injEq, and_true] at haob; obtain ⟨rfl, rfl⟩ := haob)
            replace b0 := (HL2.out.cell (p := ⟨ga, oa + n * 3, none⟩) (by first | exact hgb | assumption)).trans b0
            replace b1 := (HL2.out.cell (p := ⟨ga, oa + n * 3 + 1, none⟩) (by first | exact hgb | assumption)).trans b1
            replace b2 := (HL2.out.cell (p := ⟨ga, oa + n * 3 + 2, none⟩) (by first | exact hgb | assumption)).trans b2
            obtain ⟨b, heb⟩ : ∃ x, x = xs.getD n default := ⟨_, rfl⟩
            rw [← heb] at b0 b1 b2
            have Hb := Lib.hid heb; clear heb
            obtain ⟨hBu, xgu, u0, z0⟩ := OwnB.slotB OU.out (usedOf_get out _ k hlt)
            obtain ⟨-, -, u1, z1⟩ := OwnB.slotB OU.out (usedOf_get out _ n hlm)
            (obtain ⟨w1, rfl⟩ : ∃ x, x = wr := ⟨_, rfl⟩; have hall : allLt [ga, gu] w1.heap.size := ⟨by omega, by omega, trivial⟩; have hx := hall; (try simp only [allLt, and_true] at hx))
            cases hta : takenB out k
            rotate_left
            · rw [hta] at u0
              go_wp2_with (first | (with_reducible refine wp_region_grew2 (by kernel_rfl) (by kernel_rfl) ?_; intro w2 hb; have hb0 := hb; (first | have hn := nw4 hb hall (by exact zo) | have hn := nw3 hb hall (by exact zo) | have hn := nw2 hb hall (by exact zo) | have hn := nw1 hb hall (by exact zo) | have hn := nw0 hb hall (by exact zo)); obtain ⟨hc, hf, hn, hc0⟩ := hn; replace hall := hn; clear hn; have hz := hb.size; (try simp only [World.size_alloc, World.size_setCell, World.size_drew] at hz); have hx := hall; (try simp only [allLt, and_true] at hx); obtain ⟨w1, rfl⟩ : ∃ x, x = w2 := ⟨_, rfl⟩; skip; (repeat (go_big_quiet_step (fail))); refine wpQuiet_nil ?_; intro w2 hw'; have hb := grew_below hw'; clear hw'; (first | have hn := nw4 hb hall (by exact zo) | have hn := nw3 hb hall (by exact zo) | have hn := nw2 hb hall (by exact zo) | have hn := nw1 hb hall (by exact zo) | have hn := nw0 hb hall (by exact zo)); obtain ⟨hc, hf, hn, hc0⟩ := hn; replace hall := hn; clear hn; have hz := hb.size; (try simp only [World.size_alloc, World.size_setCell, World.size_drew] at hz); have hx := hall; (try simp only [allLt, and_true] at hx); obtain ⟨w1, rfl⟩ : ∃ x, x = w2 := ⟨_, rfl⟩) | (with_reducible refine wp_region_grew2 (by kernel_rfl) (by kernel_rfl) ?_; intro w2 hb; (first | have hn := nw4 hb hall (by exact zo) | have hn := nw3 hb hall (by exact zo) | have hn := nw2 hb hall (by exact zo) | have hn := nw1 hb hall (by exact zo) | have hn := nw0 hb hall (by exact zo)); obtain ⟨hc, hf, hn, hc0⟩ := hn; replace hall := hn; clear hn; have hz := hb.size; (try simp only [World.size_alloc, World.size_setCell, World.size_drew] at hz); have hx := hall; (try simp only [allLt, and_true] at hx); obtain ⟨w1, rfl⟩ : ∃ x, x = w2 := ⟨_, rfl⟩; (repeat (go_big_quiet_step (fail))); refine wpQuiet_nil ?_; intro w2 hw'; have hb := grew_below hw'; clear hw'; (first | have hn := nw4 hb hall (by exact zo) | have hn := nw3 hb hall (by exact zo) | have hn := nw2 hb hall (by exact zo) | have hn := nw1 hb hall (by exact zo) | have hn := nw0 hb hall (by exact zo)); obtain ⟨hc, hf, hn, hc0⟩ := hn; replace hall := hn; clear hn; have hz := hb.size; (try simp only [World.size_alloc, World.size_setCell, World.size_drew] at hz); have hx := hall; (try simp only [allLt, and_true] at hx); obtain ⟨w1, rfl⟩ : ∃ x, x = w2 := ⟨_, rfl⟩))
              go_roundw
              case rel =>
                have hL := HL2.out; have hLs := hL.size
                exact ⟨n + 1, vo, vc, by omega, by omega, by go_num, by rw [HG.out, gStep_1 _ _ _ _ hta], by rw [HG.out, gStep_1 _ _ _ _ hta]; exact Own.below OV.out (by exact bel), by rw [HG.out, gStep_1 _ _ _ _ hta]; exact HNE.out, by rw [HG.out, gStep_1 _ _ _ _ hta]; exact Own.below OU.out (by exact bel), by exact bel⟩
              case measure => simp [intOf]; omega
            cases htb : takenB out n
            rotate_left
            · rw [hta] at u0; rw [htb] at u1
              go_wp2_with (first | (with_reducible refine wp_region_grew2 (by kernel_rfl) (by kernel_rfl) ?_; intro w2 hb; have hb0 := hb; (first | have hn := nw4 hb hall (by exact zo) | have hn := nw3 hb hall (by exact zo) | have hn := nw2 hb hall (by exact zo) | have hn := nw1 hb hall (by exact zo) | have hn := nw0 hb hall (by exact zo)); obtain ⟨hc, hf, hn, hc0⟩ := hn; replace hall := hn; clear hn; have hz := hb.size; (try simp only [World.size_alloc, World.size_setCell, World.size_drew] at hz); have hx := hall; (try simp only [allLt, and_true] at hx); obtain ⟨w1, rfl⟩ : ∃ x, x = w2 := ⟨_, rfl⟩; skip; (repeat (go_big_quiet_step (fail))); refine wpQuiet_nil ?_; intro w2 hw'; have hb := grew_below hw'; clear hw'; (first | have hn := nw4 hb hall (by exact zo) | have hn := nw3 hb hall (by exact zo) | have hn := nw2 hb hall (by exact zo) | have hn := nw1 hb hall (by exact zo) | have hn := nw0 hb hall (by exact zo)); obtain ⟨hc, hf, hn, hc0⟩ := hn; replace hall := hn; clear hn; have hz := hb.size; (try simp only [World.size_alloc, World.size_setCell, World.size_drew] at hz); have hx := hall; (try simp only [allLt, and_true] at hx); obtain ⟨w1, rfl⟩ : ∃ x, x = w2 := ⟨_, rfl⟩) | (with_reducible refine wp_region_grew2 (by kernel_rfl) (by kernel_rfl) ?_; intro w2 hb; (first | have hn := nw4 hb hall (by exact zo) | have hn := nw3 hb hall (by exact zo) | have hn := nw2 hb hall (by exact zo) | have hn := nw1 hb hall (by exact zo) | have hn := nw0 hb hall (by exact zo)); obtain ⟨hc, hf, hn, hc0⟩ := hn; replace hall := hn; clear hn; have hz := hb.size; (try simp only [World.size_alloc, World.size_setCell, World.size_drew] at hz); have hx := hall; (try simp only [allLt, and_true] at hx); obtain ⟨w1, rfl⟩ : ∃ x, x = w2 := ⟨_, rfl⟩; (repeat (go_big_quiet_step (fail))); refine wpQuiet_nil ?_; intro w2 hw'; have hb := grew_below hw'; clear hw'; (first | have hn := nw4 hb hall (by exact zo) | have hn := nw3 hb hall (by exact zo) | have hn := nw2 hb hall (by exact zo) | have hn := nw1 hb hall (by exact zo) | have hn := nw0 hb hall (by exact zo)); obtain ⟨hc, hf, hn, hc0⟩ := hn; replace hall := hn; clear hn; have hz := hb.size; (try simp only [World.size_alloc, World.size_setCell, World.size_drew] at hz); have hx := hall; (try simp only [allLt, and_true] at hx); obtain ⟨w1, rfl⟩ : ∃ x, x = w2 := ⟨_, rfl⟩))
              go_roundw
              case rel =>
                have hL := HL2.out; have hLs := hL.size
                exact ⟨n + 1, vo, vc, by omega, by omega, by go_num, by rw [HG.out, gStep_2 _ _ _ _ htb], by rw [HG.out, gStep_2 _ _ _ _ htb]; exact Own.below OV.out (by exact bel), by rw [HG.out, gStep_2 _ _ _ _ htb]; exact HNE.out, by rw [HG.out, gStep_2 _ _ _ _ htb]; exact Own.below OU.out (by exact bel), by exact bel⟩
              case measure => simp [intOf]; omega
            rw [hta] at u0; rw [htb] at u1
            cases hmm : meshS aa b
            · have hm2 : meshable aa.p aa.c aa.b b.p b.c b.b = false := hmm
              go_wp2_with (first | (with_reducible refine wp_region_grew2 (by kernel_rfl) (by kernel_rfl) ?_; intro w2 hb; have hb0 := hb; (first | have hn := nw4 hb hall (by exact zo) | have hn := nw3 hb hall (by exact zo) | have hn := nw2 hb hall (by exact zo) | have hn := nw1 hb hall (by exact zo) | have hn := nw0 hb hall (by exact zo)); obtain ⟨hc, hf, hn, hc0⟩ := hn; replace hall := hn; clear hn; have hz := hb.size; (try simp only [World.size_alloc, World.size_setCell, World.size_drew] at hz); have hx := hall; (try simp only [allLt, and_true] at hx); obtain ⟨w1, rfl⟩ : ∃ x, x = w2 := ⟨_, rfl⟩; skip; (repeat (go_big_quiet_step ((first | (go_at_call 43; (exact calls_grew (s_Meshable _ _ _ _ _ _ _ hm2 _))))))); refine wpQuiet_nil ?_; intro w2 hw'; have hb := grew_below hw'; clear hw'; (first | have hn := nw4 hb hall (by exact zo) | have hn := nw3 hb hall (by exact zo) | have hn := nw2 hb hall (by exact zo) | have hn := nw1 hb hall (by exact zo) | have hn := nw0 hb hall (by exact zo)); obtain ⟨hc, hf, hn, hc0⟩ := hn; replace hall := hn; clear hn; have hz := hb.size; (try simp only [World.size_alloc, World.size_setCell, World.size_drew] at hz); have hx := hall; (try simp only [allLt, and_true] at hx); obtain ⟨w1, rfl⟩ : ∃ x, x = w2 := ⟨_, rfl⟩) | (with_reducible refine wp_region_grew2 (by kernel_rfl) (by kernel_rfl) ?_; intro w2 hb; (first | have hn := nw4 hb hall (by exact zo) | have hn := nw3 hb hall (by exact zo) | have hn := nw2 hb hall (by exact zo) | have hn := nw1 hb hall (by exact zo) | have hn := nw0 hb hall (by exact zo)); obtain ⟨hc, hf, hn, hc0⟩ := hn; replace hall := hn; clear hn; have hz := hb.size; (try simp only [World.size_alloc, World.size_setCell, World.size_drew] at hz); have hx := hall; (try simp only [allLt, and_true] at hx); obtain ⟨w1, rfl⟩ : ∃ x, x = w2 := ⟨_, rfl⟩; (repeat (go_big_quiet_step (fail))); refine wpQuiet_nil ?_; intro w2 hw'; have hb := grew_below hw'; clear hw'; (first | have hn := nw4 hb hall (by exact zo) | have hn := nw3 hb hall (by exact zo) | have hn := nw2 hb hall (by exact zo) | have hn := nw1 hb hall (by exact zo) | have hn := nw0 hb hall (by exact zo)); obtain ⟨hc, hf, hn, hc0⟩ := hn; replace hall := hn; clear hn; have hz := hb.size; (try simp only [World.size_alloc, World.size_setCell, World.size_drew] at hz); have hx := hall; (try simp only [allLt, and_true] at hx); obtain ⟨w1, rfl⟩ : ∃ x, x = w2 := ⟨_, rfl⟩))
              go_roundw
              case rel =>
                have hL := HL2.out; have hLs := hL.size
                exact ⟨n + 1, vo, vc, by omega, by omega, by go_num, by rw [HG.out, gStep_3 _ _ _ _ (by rw [← Haa.out, ← Hb.out]; exact hmm)], by rw [HG.out, gStep_3 _ _ _ _ (by rw [← Haa.out, ← Hb.out]; exact hmm)]; exact Own.below OV.out (by exact bel), by rw [HG.out, gStep_3 _ _ _ _ (by rw [← Haa.out, ← Hb.out]; exact hmm)]; exact HNE.out, by rw [HG.out, gStep_3 _ _ _ _ (by rw [← Haa.out, ← Hb.out]; exact hmm)]; exact Own.below OU.out (by exact bel), by exact bel⟩
              case measure => simp [intOf]; omega
            · have hm2 : meshable aa.p aa.c aa.b b.p b.c b.b = true := hmm
              go_wp2_with (first | (with_reducible refine wp_region_grew2 (by kernel_rfl) (by kernel_rfl) ?_; intro w2 hb; have hb0 := hb; (first | have hn := nw4 hb hall (by exact zo) | have hn := nw3 hb hall (by exact zo) | have hn := nw2 hb hall (by exact zo) | have hn := nw1 hb hall (by exact zo) | have hn := nw0 hb hall (by exact zo)); obtain ⟨hc, hf, hn, hc0⟩ := hn; replace hall := hn; clear hn; have hz := hb.size; (try simp only [World.size_alloc, World.size_setCell, World.size_drew] at hz); have hx := hall; (try simp only [allLt, and_true] at hx); obtain ⟨w1, rfl⟩ : ∃ x, x = w2 := ⟨_, rfl⟩; skip; (repeat (go_big_quiet_step ((first | (go_at_call 43; (exact calls_grew (s_Meshable _ _ _ _ _ _ _ hm2 _))))))); refine wpQuiet_nil ?_; intro w2 hw'; have hb := grew_below hw'; clear hw'; (first | have hn := nw4 hb hall (by exact zo) | have hn := nw3 hb hall (by exact zo) | have hn := nw2 hb hall (by exact zo) | have hn := nw1 hb hall (by exact zo) | have hn := nw0 hb hall (by exact zo)); obtain ⟨hc, hf, hn, hc0⟩ := hn; replace hall := hn; clear hn; have hz := hb.size; (try simp only [World.size_alloc, World.size_setCell, World.size_drew] at hz); have hx := hall; (try simp only [allLt, and_true] at hx); obtain ⟨w1, rfl⟩ : ∃ x, x = w2 := ⟨_, rfl⟩) | (at_builtin; refine wpList_append1 elemPr rfl _ _ rfl lenPr rfl (Own.alloc (Own.setCell (Own.setCell (Own.below OV.out (by exact bel)) _ _ HNE.out) _ _ HNE.out) _) (by exact zo) rfl (⟨(k : Int), (n : Int)⟩ : Pr) (onePr _) (by intro j u hj; match j, hj with | 0, hj => (simp [fPr] at hj; subst hj; go_simp) | 1, hj => (simp [fPr] at hj; subst hj; go_simp) | j + 2, hj => simp [fPr] at hj) (by unfold maxLen; omega) ?_; intro v2 w2 hown2 hgr2 hat2 hb2; obtain ⟨v2o, v2c, rfl, -, -⟩ := hown2.shape; have OR := Lib.hid hown2; have HB3 := Lib.hid hb2; have HAT := Lib.hid hat2; have HGR := Lib.hid hgr2; clear hown2 hb2 hat2 hgr2) | (with_reducible refine wp_region_grew2 (by kernel_rfl) (by kernel_rfl) ?_; intro w2 hb; (first | have hn := nw4 hb hall (by exact zo) | have hn := nw3 hb hall (by exact zo) | have hn := nw2 hb hall (by exact zo) | have hn := nw1 hb hall (by exact zo) | have hn := nw0 hb hall (by exact zo)); obtain ⟨hc, hf, hn, hc0⟩ := hn; replace hall := hn; clear hn; have hz := hb.size; (try simp only [World.size_alloc, World.size_setCell, World.size_drew] at hz); have hx := hall; (try simp only [allLt, and_true] at hx); obtain ⟨w1, rfl⟩ : ∃ x, x = w2 := ⟨_, rfl⟩; (repeat (go_big_quiet_step (fail))); refine wpQuiet_nil ?_; intro w2 hw'; have hb := grew_below hw'; clear hw'; (first | have hn := nw4 hb hall (by exact zo) | have hn := nw3 hb hall (by exact zo) | have hn := nw2 hb hall (by exact zo) | have hn := nw1 hb hall (by exact zo) | have hn := nw0 hb hall (by exact zo)); obtain ⟨hc, hf, hn, hc0⟩ := hn; replace hall := hn; clear hn; have hz := hb.size; (try simp only [World.size_alloc, World.size_setCell, World.size_drew] at hz); have hx := hall; (try simp only [allLt, and_true] at hx); obtain ⟨w1, rfl⟩ : ∃ x, x = w2 := ⟨_, rfl⟩))
              go_roundw
              case rel =>
                have hL := HL2.out; have hLs := hL.size; have hB3 := HB3.out
                have e := gStep_4 xs out k n hta htb (by rw [← Haa.out, ← Hb.out]; exact hmm)
                have hu1 : OwnB w.heap.size w1 (.slice (some ⟨gu, 0, none⟩) xs.length xs.length) (usedOf out xs.length) := Own.below OU.out (by exact bel)
                have hu2 := (Own.set1 lenBool hu1 rfl k (.bool true) true rfl).1
                have hu3 := (Own.set1 lenBool hu2 rfl n (.bool true) true rfl).1
                rw [usedOf_set out xs.length k n hlt hlm] at hu3
                have hu4 := Own.alloc hu3 (.cells #[.int .i64 (k : Int), .int .i64 (n : Int)] 66)
                have hu5 := Own.kept (w' := w2) hu4 (fun g hg => HGR.out.block g (hu4.lt g hg).2 (fun e => own_ne hg HNE.out e))
                refine ⟨n + 1, v2o, v2c, by omega, by omega, by go_num, by rw [HG.out, e]; simp, by rw [HG.out, e]; exact OR.out, ?_, by rw [HG.out, e]; exact hu5, by exact bel⟩
                rw [HG.out, e]
                rcases HAT.out with h | h
                · rw [h]; exact HNE.out
                · intro h2; rw [h] at h2; simp at h2; omega
              case measure => simp [intOf]; omega
          · have hlm' : ¬ (n : Int) < xs.length := by omega
            obtain rfl : n = xs.length := by omega
            go_wp2_with (first | (with_reducible refine wp_region_grew2 (by kernel_rfl) (by kernel_rfl) ?_; intro w2 hb; (first | have hn := nw4 hb hall (by exact zo) | have hn := nw3 hb hall (by exact zo) | have hn := nw2 hb hall (by exact zo) | have hn := nw1 hb hall (by exact zo) | have hn := nw0 hb hall (by exact zo)); obtain ⟨hc, hf, hn, hc0⟩ := hn; replace hall := hn; clear hn; have hz := hb.size; (try simp only [World.size_alloc, World.size_setCell, World.size_drew] at hz); have hx := hall; (try simp only [allLt, and_true] at hx); obtain ⟨w1, rfl⟩ : ∃ x, x = w2 := ⟨_, rfl⟩; (repeat (go_big_quiet_step (fail))); refine wpQuiet_nil ?_; intro w2 hw'; have hb := grew_below hw'; clear hw'; (first | have hn := nw4 hb hall (by exact zo) | have hn := nw3 hb hall (by exact zo) | have hn := nw2 hb hall (by exact zo) | have hn := nw1 hb hall (by exact zo) | have hn := nw0 hb hall (by exact zo)); obtain ⟨hc, hf, hn, hc0⟩ := hn; replace hall := hn; clear hn; have hz := hb.size; (try simp only [World.size_alloc, World.size_setCell, World.size_drew] at hz); have hx := hall; (try simp only [allLt, and_true] at hx); obtain ⟨w1, rfl⟩ : ∃ x, x = w2 := ⟨_, rfl⟩))
            go_roundw
            case rel =>
              have hL := HL2.out; have hLs := hL.size
              exact ⟨k + 1, vo, vc, by omega, by go_num, rfl, by rw [gAllP]; exact Own.below OV.out (by exact bel), by rw [gAllP]; exact HNE.out, by rw [gAllP]; exact Own.below OU.out (by exact bel), by exact bel⟩
            case measure => simp [intOf]; omega
      · have hlt' : ¬ (k : Int) < xs.length := by omega
        obtain rfl : k = xs.length := by omega
        go_wp2_with (first | (with_reducible refine wp_region_grew2 (by kernel_rfl) (by kernel_rfl) ?_; intro w2 hb; (first | have hn := nw4 hb hall (by exact zo) | have hn := nw3 hb hall (by exact zo) | have hn := nw2 hb hall (by exact zo) | have hn := nw1 hb hall (by exact zo) | have hn := nw0 hb hall (by exact zo)); obtain ⟨hc, hf, hn, hc0⟩ := hn; replace hall := hn; clear hn; have hz := hb.size; (try simp only [World.size_alloc, World.size_setCell, World.size_drew] at hz); have hx := hall; (try simp only [allLt, and_true] at hx); obtain ⟨w1, rfl⟩ : ∃ x, x = w2 := ⟨_, rfl⟩; (repeat (go_big_quiet_step (fail))); refine wpQuiet_nil ?_; intro w2 hw'; have hb := grew_below hw'; clear hw'; (first | have hn := nw4 hb hall (by exact zo) | have hn := nw3 hb hall (by exact zo) | have hn := nw2 hb hall (by exact zo) | have hn := nw1 hb hall (by exact zo) | have hn := nw0 hb hall (by exact zo)); obtain ⟨hc, hf, hn, hc0⟩ := hn; replace hall := hn; clear hn; have hz := hb.size; (try simp only [World.size_alloc, World.size_setCell, World.size_drew] at hz); have hx := hall; (try simp only [allLt, and_true] at hx); obtain ⟨w1, rfl⟩ : ∃ x, x = w2 := ⟨_, rfl⟩))
        go_ret
        exact ⟨_, rfl, OV.out, HL.out⟩

end Go.Proofs.Ytkdafincnmkjnaa
