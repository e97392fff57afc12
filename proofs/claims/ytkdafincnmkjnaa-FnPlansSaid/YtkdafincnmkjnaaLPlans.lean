/- 'laws.FnPlans' returns true, whatever the bytes: no condition. -/
import Derived.Test.YtkdafincnmkjnaaPlanLaw
import Derived.Test.YtkdafincnmkjnaaPairLaw
import Derived.Test.YtkdafincnmkjnaaFrameB
import Derived.Deep.RegionHeld3
set_option linter.unusedVariables false
set_option linter.unusedSimpArgs false
namespace Go.Proofs.Ytkdafincnmkjnaa
open Go.Deep Go.ChangeShapes Go.WideShapes Go.ChangeAt Go.RowKit
theorem greedy_pair {xs : List Sp} (hn : xs.length ≤ 16) (i : Nat) (hi : i < (greedy xs).length) : ∃ a b : Nat, (greedy xs)[i]? = some ⟨(a : Int), (b : Int)⟩ ∧ a < xs.length ∧ b < xs.length ∧ meshS (xs.getD a default) (xs.getD b default) = true := by
  have h := allTo_iff.1 (greedy_inv hn).ok i hi
  unfold pOk at h
  have hx : (greedy xs)[i]? = some ((greedy xs).getD i default) := by rw [List.getD_eq_getElem?_getD, List.getElem?_eq_getElem hi, Option.getD_some]
  rw [hx]
  generalize (greedy xs).getD i default = q at h
  obtain ⟨a, b⟩ := q
  simp only [Bool.and_eq_true, between_iff] at h
  obtain ⟨ha, hb, -, -, -, hm⟩ := h
  obtain ⟨m, rfl⟩ := Int.eq_ofNat_of_zero_le ha.1
  obtain ⟨n, rfl⟩ := Int.eq_ofNat_of_zero_le hb.1
  exact ⟨m, n, rfl, by omega, by omega, by simpa using hm⟩
theorem l_sameInts (va vb : Value) (xs : List Int) (w : World) (ha : IntsAt w va xs) (hb : IntsAt w vb xs) : Calls Try.prog 56 #[va, vb] w fun e w' => e = .returned (.bool true) ∧ Below w.heap.size w w' := by
  obtain ⟨ao, ca, rfl, hn, hm, hra⟩ := IntsAt.open ha
  obtain ⟨bo, cb, rfl, -, -, hrb⟩ := IntsAt.open hb
  have hle : xs.length ≤ 9223372036854775807 := by unfold maxLen at hm; omega
  clear hm
  have HA := Lib.hid hra; have HB := Lib.hid hrb; clear hra hrb
  (have hall := all_nil w; go_enter Try.func56, Try.ntmps56)
  go_wp2_with (first | (with_reducible refine wp_region_grew2 (by kernel_rfl) (by kernel_rfl) ?_; intro w2 hb; (first | have hn := nw4 hb hall (by exact zo) | have hn := nw3 hb hall (by exact zo) | have hn := nw2 hb hall (by exact zo) | have hn := nw1 hb hall (by exact zo) | have hn := nw0 hb hall (by exact zo)); obtain ⟨hc, hf, hn, hc0⟩ := hn; replace hall := hn; clear hn; have hz := hb.size; (try simp only [World.size_alloc, World.size_setCell, World.size_drew] at hz); have hx := hall; (try simp only [allLt, and_true] at hx); obtain ⟨w1, rfl⟩ : ∃ x, x = w2 := ⟨_, rfl⟩; (repeat (go_big_quiet_step (fail))); refine wpQuiet_nil ?_; intro w2 hw'; have hb := grew_below hw'; clear hw'; (first | have hn := nw4 hb hall (by exact zo) | have hn := nw3 hb hall (by exact zo) | have hn := nw2 hb hall (by exact zo) | have hn := nw1 hb hall (by exact zo) | have hn := nw0 hb hall (by exact zo)); obtain ⟨hc, hf, hn, hc0⟩ := hn; replace hall := hn; clear hn; have hz := hb.size; (try simp only [World.size_alloc, World.size_setCell, World.size_drew] at hz); have hx := hall; (try simp only [allLt, and_true] at hx); obtain ⟨w1, rfl⟩ : ∃ x, x = w2 := ⟨_, rfl⟩))
  go_loopw [5] (fun i wr => ∃ j : Nat, j ≤ xs.length ∧ i = .int .i64 j ∧ Below w.heap.size w wr) (fun i _ => xs.length - (intOf i).toNat)
  case atStart => exact ⟨0, Nat.zero_le _, rfl, Below.refl _ _⟩
  case round =>
    obtain ⟨j, hj, rfl, hbel⟩ := hrel
    have HL := Lib.hid hbel; have hsz := hbel.size; clear hbel
    by_cases hlt : j < xs.length
    · have hlt' : (j : Int) < xs.length := by omega
      have hx0 : xs[j]? = some (xs.getD j 0) := by rw [List.getD_eq_getElem?_getD, List.getElem?_eq_getElem hlt, Option.getD_some]
      obtain ⟨ga, oa, rfl, hga, a0⟩ := HA.out j _ hx0
      obtain ⟨gb, ob, rfl, hgb, b0⟩ := HB.out j _ hx0
      replace a0 := (HL.out.cell (p := ⟨ga, oa + j, none⟩) hga).trans a0
      replace b0 := (HL.out.cell (p := ⟨gb, ob + j, none⟩) hgb).trans b0
      generalize xs.getD j 0 = x at *
      clear hx0
      (obtain ⟨w1, rfl⟩ : ∃ x, x = wr := ⟨_, rfl⟩; have hall : allLt [ga, gb] w1.heap.size := ⟨by omega, by omega, trivial⟩; have hx := hall; (try simp only [allLt, and_true] at hx))
      go_wp2_with (first | (with_reducible refine wp_region_grew2 (by kernel_rfl) (by kernel_rfl) ?_; intro w2 hb; (first | have hn := nw4 hb hall (by exact zo) | have hn := nw3 hb hall (by exact zo) | have hn := nw2 hb hall (by exact zo) | have hn := nw1 hb hall (by exact zo) | have hn := nw0 hb hall (by exact zo)); obtain ⟨hc, hf, hn, hc0⟩ := hn; replace hall := hn; clear hn; have hz := hb.size; (try simp only [World.size_alloc, World.size_setCell, World.size_drew] at hz); have hx := hall; (try simp only [allLt, and_true] at hx); obtain ⟨w1, rfl⟩ : ∃ x, x = w2 := ⟨_, rfl⟩; (repeat (go_big_quiet_step (fail))); refine wpQuiet_nil ?_; intro w2 hw'; have hb := grew_below hw'; clear hw'; (first | have hn := nw4 hb hall (by exact zo) | have hn := nw3 hb hall (by exact zo) | have hn := nw2 hb hall (by exact zo) | have hn := nw1 hb hall (by exact zo) | have hn := nw0 hb hall (by exact zo)); obtain ⟨hc, hf, hn, hc0⟩ := hn; replace hall := hn; clear hn; have hz := hb.size; (try simp only [World.size_alloc, World.size_setCell, World.size_drew] at hz); have hx := hall; (try simp only [allLt, and_true] at hx); obtain ⟨w1, rfl⟩ : ∃ x, x = w2 := ⟨_, rfl⟩))
      go_roundw
      case rel =>
        have hL := HL.out
        exact ⟨j + 1, by omega, by go_num, by exact bel⟩
      case measure => simp [intOf]; omega
    · have hlt' : ¬ (j : Int) < xs.length := by omega
      go_wp2_with (first | (with_reducible refine wp_region_grew2 (by kernel_rfl) (by kernel_rfl) ?_; intro w2 hb; (first | have hn := nw4 hb hall (by exact zo) | have hn := nw3 hb hall (by exact zo) | have hn := nw2 hb hall (by exact zo) | have hn := nw1 hb hall (by exact zo) | have hn := nw0 hb hall (by exact zo)); obtain ⟨hc, hf, hn, hc0⟩ := hn; replace hall := hn; clear hn; have hz := hb.size; (try simp only [World.size_alloc, World.size_setCell, World.size_drew] at hz); have hx := hall; (try simp only [allLt, and_true] at hx); obtain ⟨w1, rfl⟩ : ∃ x, x = w2 := ⟨_, rfl⟩; (repeat (go_big_quiet_step (fail))); refine wpQuiet_nil ?_; intro w2 hw'; have hb := grew_below hw'; clear hw'; (first | have hn := nw4 hb hall (by exact zo) | have hn := nw3 hb hall (by exact zo) | have hn := nw2 hb hall (by exact zo) | have hn := nw1 hb hall (by exact zo) | have hn := nw0 hb hall (by exact zo)); obtain ⟨hc, hf, hn, hc0⟩ := hn; replace hall := hn; clear hn; have hz := hb.size; (try simp only [World.size_alloc, World.size_setCell, World.size_drew] at hz); have hx := hall; (try simp only [allLt, and_true] at hx); obtain ⟨w1, rfl⟩ : ∃ x, x = w2 := ⟨_, rfl⟩))
      go_ret
      exact ⟨rfl, HL.out⟩
theorem intsNil (w : World) : IntsAt w (.slice none 0 0) [] := ⟨none, 0, rfl, Nat.le_refl _, by simp [maxLen], fun i x h => by simp at h⟩
theorem apart_step {t o t2 : Value} {n : Nat} (ha : ∀ b, t.ownBlock = some b → o.ownBlock = some b → False) (hat : t2.ownBlock = t.ownBlock ∨ t2.ownBlock = some n) (hlt : ∀ b, o.ownBlock = some b → b < n) : ∀ b, t2.ownBlock = some b → o.ownBlock = some b → False := by
  intro b h1 h2
  rcases hat with h | h
  · exact ha b (h ▸ h1) h2
  · rw [h] at h1; have := hlt b h2; simp at h1; omega
theorem apart_step' {t o o2 : Value} {n : Nat} (ha : ∀ b, t.ownBlock = some b → o.ownBlock = some b → False) (hat : o2.ownBlock = o.ownBlock ∨ o2.ownBlock = some n) (hlt : ∀ b, t.ownBlock = some b → b < n) : ∀ b, t.ownBlock = some b → o2.ownBlock = some b → False := by
  intro b h1 h2
  rcases hat with h | h
  · exact ha b h1 (h ▸ h2)
  · rw [h] at h2; have := hlt b h1; simp at h2; omega
theorem i_PlanPair0 (w : World) : Calls Try.prog 47 #[.agg #[.int .i64 0, .int .i64 0, .int .i64 0], .agg #[.int .i64 0, .int .i64 0, .int .i64 0]] w fun e w' => (∃ ao ca, e = .returned (.tuple #[.agg #[.int .i64 0, .int .i64 0, .slice ao 0 ca], .bool false])) ∧ Below w.heap.size w w' := by
  have hm : meshable 0 0 0 0 0 0 = false := by decide
  refine (i_PlanPair 0 0 0 0 0 0 w).mono ?_
  rintro e w2 ⟨v, rfl, ho, hb⟩
  obtain ⟨ao, ca, rfl, -⟩ := ho.shape
  refine ⟨⟨ao, ca, ?_⟩, hb⟩
  rw [hm]; simp [ppK, ppM, ppC, hm]
set_option maxRecDepth 20000 in
set_option maxHeartbeats 3200000 in
theorem w_FnPlans (v : Value) (n : Nat) (w : World) (hv : BytesAt w.heap.size w v n) : Calls Try.prog 11 #[v] w fun e w' => e = .returned (.bool true) ∧ Below w.heap.size w w' := by
  have HV := Lib.hid hv; clear hv
  by_cases hbig : (1048576 : Int) < n
  · (have hall := all_nil w; go_enter Try.func11, Try.ntmps11)
    go_wp2_with (go_at_call 15; refine (l_big _ n _ HV.out).mono ?_; rintro e w1 ⟨rfl, rfl⟩)
    all_goals (go_ret; refine ⟨by simp_all [], ?_⟩; exact bel)
  · (have hall := all_nil w; go_enter Try.func11, Try.ntmps11)
    go_wp2_with (go_at_call 15; refine (l_big _ n _ HV.out).mono ?_; rintro e w1 ⟨rfl, rfl⟩)
    refine (s_DrawSpans _ n _ HV.out).mono ?_; rintro e w2 ⟨lv, xs, rfl, hl8, hown, hb⟩
    obtain ⟨vo, vc, rfl, hvc, hvm, -⟩ := hown.shape
    have HS := Lib.hid hown.at
    have HB := Lib.hid hb
    obtain ⟨w1, rfl⟩ : ∃ x, x = w2 := ⟨_, rfl⟩
    clear hown hvm hb
    go_wp2_with fail
    refine (s_DrawPlaces _ n _ (HV.out.grew HB.out)).mono ?_; rintro e w2 ⟨pv, ps, rfl, hown, hxl, hxs, hb⟩
    obtain ⟨pg, pc, rfl, hgB, hg, hcell⟩ := places_at hown hxl
    have p0 := hcell 0 (by omega)
    have b0 := places_in hxl hxs 0 (by omega)
    replace HS := Lib.hid (HS.out.below hb)
    replace HB := Lib.hid (HB.out.trans (hb.mono HB.out.size))
    clear hcell hxs hown hxl hb hgB
    generalize ps.getD 0 0 = seed at *
    obtain ⟨w1, rfl⟩ : ∃ x, x = w2 := ⟨_, rfl⟩
    go_wp2_with fail
    refine (s_GreedyPairs _ xs _ HS.out).mono ?_; rintro e w2 ⟨bv, rfl, hown, hb⟩
    replace HS := Lib.hid (HS.out.below hb)
    replace HB := Lib.hid (HB.out.trans (hb.mono HB.out.size))
    replace p0 := (hb.cell (p := ⟨pg, 0, none⟩) hg).trans p0
    replace hg : pg < w2.heap.size := Nat.lt_of_lt_of_le hg hb.size
    obtain ⟨bo, bc, rfl, hnb, -, hpr⟩ := PrAt.open (Own.at hown lenPr)
    have HPR := Lib.hid hpr
    clear hown hb hpr hnb
    have GP := Lib.hid (greedy_pair (xs := xs) (by omega))
    obtain ⟨gs, hgs⟩ : ∃ x, x = greedy xs := ⟨_, rfl⟩
    rw [← hgs] at HPR GP ⊢
    have hgl : gs.length ≤ 256 := by rw [hgs]; exact greedy_le xs
    clear hgs
    obtain ⟨w1, rfl⟩ : ∃ x, x = w2 := ⟨_, rfl⟩
    by_cases h0 : gs.length = 0
    · have h0I : ((gs.length : Nat) : Int) = 0 := by omega
      go_wp2_with fail
      refine (i_PlanPair0 _).mono ?_; rintro e w2 ⟨⟨xo, xcap, rfl⟩, hb⟩
      replace HB := Lib.hid (HB.out.trans (hb.mono HB.out.size))
      clear hb
      have hall := all_nil w2
      go_wp2_with (go_at_call 51; refine (i_PlanSaves 1 0 _ [] _ (intsNil _)).mono ?_; rintro e w3 ⟨rfl, hb⟩; rw [show planSaves 1 0 [] = 16 by decide]; (first | have hn := nw4 (w2 := w3) hb hall (by exact zo) | have hn := nw3 (w2 := w3) hb hall (by exact zo) | have hn := nw2 (w2 := w3) hb hall (by exact zo) | have hn := nw1 (w2 := w3) hb hall (by exact zo) | have hn := nw0 (w2 := w3) hb hall (by exact zo)); obtain ⟨hc, hf, hn, hc0⟩ := hn; replace hall := hn; clear hn; have hz := hb.size; (try simp only [World.size_alloc, World.size_setCell, World.size_drew] at hz); have hx := hall; (try simp only [allLt, and_true] at hx); obtain ⟨w1, rfl⟩ : ∃ x, x = w3 := ⟨_, rfl⟩)
      go_ret
      have hB := HB.out; have hBs := hB.size
      exact ⟨rfl, by exact bel⟩
    · have h0I : ¬ ((gs.length : Nat) : Int) = 0 := by omega
      have hm0 : (0 : Int) < (gs.length : Nat) := by omega
      obtain ⟨i, hi⟩ : ∃ i : Nat, seed % ((gs.length : Nat) : Int) = (i : Int) := ⟨(seed % ((gs.length : Nat) : Int)).toNat, by have := Int.emod_nonneg seed h0I; omega⟩
      have hilt : i < gs.length := by have := Int.emod_lt_of_pos seed hm0; omega
      have hiI : (i : Int) < (gs.length : Nat) := by omega
      have hmd : seed.tmod ((gs.length : Nat) : Int) = (i : Int) := by rw [Int.tmod_eq_emod_of_nonneg b0.1, hi]
      obtain ⟨A, B, hq, hA, hB, hmesh⟩ := GP.out i hilt
      have hAI : (A : Int) < (xs.length : Nat) := by omega
      have hBI : (B : Int) < (xs.length : Nat) := by omega
      obtain ⟨gq, oq, rfl, hgq, q0, q1⟩ := HPR.out i _ hq
      have HYO := Lib.hid HS.out.open
      obtain ⟨ly, cy, he, -, -, hry⟩ := HYO.out
      simp only [Value.slice.injEq] at he
      obtain ⟨rfl, -, rfl⟩ := he
      obtain ⟨ga, oa, rfl, hga, a0, a1, a2⟩ := hry A hA
      obtain ⟨gb, ob, he2, hgb, z0, z1, z2⟩ := hry B hB
      simp only [Option.some.injEq, Addr.mk.injEq, and_true] at he2
      obtain ⟨rfl, rfl⟩ := he2
      have PF := Lib.hid (planFact_of hmesh); have HM := Lib.hid hmesh
      generalize xs.getD A default = a at *
      generalize xs.getD B default = b at *
      clear hry HYO GP HPR hq hmesh
      have hx := hg
      obtain ⟨wS, rfl⟩ : ∃ x, x = w1 := ⟨_, rfl⟩
      go_wp2_with fail
      refine (i_PlanPair a.p a.c a.b b.p b.c b.b _).mono ?_; rintro e w2 ⟨xv, rfl, hox, hb⟩
      obtain ⟨xo, xcap, rfl, -⟩ := hox.shape
      have hsz := hb.size
      simp only [World.size_alloc] at hsz
      have HBX := hb
      have d0 : w2.cell? ⟨wS.heap.size, 0, none⟩ = some (.int .i64 a.p) := (hb.cell (p := ⟨wS.heap.size, 0, none⟩) (by (simp only [World.size_alloc]; omega))).trans (by go_simp)
      have d1 : w2.cell? ⟨wS.heap.size, 1, none⟩ = some (.int .i64 a.c) := (hb.cell (p := ⟨wS.heap.size, 1, none⟩) (by (simp only [World.size_alloc]; omega))).trans (by go_simp)
      have d2 : w2.cell? ⟨wS.heap.size, 2, none⟩ = some (.int .i64 a.b) := (hb.cell (p := ⟨wS.heap.size, 2, none⟩) (by (simp only [World.size_alloc]; omega))).trans (by go_simp)
      have f0 : w2.cell? ⟨wS.heap.size + 1, 0, none⟩ = some (.int .i64 b.p) := (hb.cell (p := ⟨wS.heap.size + 1, 0, none⟩) (by (simp only [World.size_alloc]; omega))).trans (by go_simp)
      have f1 : w2.cell? ⟨wS.heap.size + 1, 1, none⟩ = some (.int .i64 b.c) := (hb.cell (p := ⟨wS.heap.size + 1, 1, none⟩) (by (simp only [World.size_alloc]; omega))).trans (by go_simp)
      have f2 : w2.cell? ⟨wS.heap.size + 1, 2, none⟩ = some (.int .i64 b.b) := (hb.cell (p := ⟨wS.heap.size + 1, 2, none⟩) (by (simp only [World.size_alloc]; omega))).trans (by go_simp)
      have HOX := Lib.hid (hox.at lenInt)
      replace HB : Hid (Below w.heap.size w w2) := by (have hB0 := HB.out; have hBs := hB0.size; exact bel)
      clear hox hb HBX
      rw [show meshable a.p a.c a.b b.p b.c b.b = true from HM.out]
      generalize ppK a.p a.c a.b b.p b.c b.b = kp at *
      generalize ppM a.p a.c a.b b.p b.c b.b = mv at *
      generalize ppC a.p a.c a.b b.p b.c b.b = cs at *
      obtain ⟨g0, hg0⟩ : ∃ x, x = wS.heap.size := ⟨_, rfl⟩
      have HG0 := Lib.hid hg0
      rw [← hg0] at d0 d1 d2 f0 f1 f2 hsz ⊢
      clear hg0 a0 a1 a2 z0 z1 z2 q0 q1 p0 hga hgb hgq hg hx hall HS
      obtain ⟨w1, rfl⟩ : ∃ x, x = w2 := ⟨_, rfl⟩
      have hne := PF.out.ne
      go_wp2_with fail
      refine (i_PlanOk kp mv _ cs true PF.out.ok _ (HOX.out.below (by exact bel))).mono ?_; rintro e w3 ⟨rfl, hb⟩
      have hsz3 := hb.size
      simp only [World.size_alloc] at hsz3
      have hq0 : g0 < w1.heap.size := by omega
      have hq1 : g0 + 1 < w1.heap.size := by omega
      obtain ⟨gx, hgx⟩ : ∃ x, x = w1.heap.size := ⟨_, rfl⟩
      replace d0 : w3.cell? ⟨g0, 0, none⟩ = some (.int .i64 a.p) := (hb.cell (p := ⟨g0, 0, none⟩) (by (simp only [World.size_alloc]; omega))).trans (by go_simp)
      replace d1 : w3.cell? ⟨g0, 1, none⟩ = some (.int .i64 a.c) := (hb.cell (p := ⟨g0, 1, none⟩) (by (simp only [World.size_alloc]; omega))).trans (by go_simp)
      replace d2 : w3.cell? ⟨g0, 2, none⟩ = some (.int .i64 a.b) := (hb.cell (p := ⟨g0, 2, none⟩) (by (simp only [World.size_alloc]; omega))).trans (by go_simp)
      replace f0 : w3.cell? ⟨g0 + 1, 0, none⟩ = some (.int .i64 b.p) := (hb.cell (p := ⟨g0 + 1, 0, none⟩) (by (simp only [World.size_alloc]; omega))).trans (by go_simp)
      replace f1 : w3.cell? ⟨g0 + 1, 1, none⟩ = some (.int .i64 b.c) := (hb.cell (p := ⟨g0 + 1, 1, none⟩) (by (simp only [World.size_alloc]; omega))).trans (by go_simp)
      replace f2 : w3.cell? ⟨g0 + 1, 2, none⟩ = some (.int .i64 b.b) := (hb.cell (p := ⟨g0 + 1, 2, none⟩) (by (simp only [World.size_alloc]; omega))).trans (by go_simp)
      
      have x0 : w3.cell? ⟨w1.heap.size, 0, none⟩ = some (.int .i64 kp) := (hb.cell (p := ⟨w1.heap.size, 0, none⟩) (by (simp only [World.size_alloc]; omega))).trans (by go_simp)
      have x1 : w3.cell? ⟨w1.heap.size, 1, none⟩ = some (.int .i64 mv) := (hb.cell (p := ⟨w1.heap.size, 1, none⟩) (by (simp only [World.size_alloc]; omega))).trans (by go_simp)
      have x2 : w3.cell? ⟨w1.heap.size, 2, none⟩ = some (.slice xo cs.length xcap) := (hb.cell (p := ⟨w1.heap.size, 2, none⟩) (by (simp only [World.size_alloc]; omega))).trans (by go_simp)
      
      replace HOX := Lib.hid (HOX.out.below (w' := w3) (by exact bel))
      replace HB : Hid (Below w.heap.size w w3) := by (have hB0 := HB.out; have hBs := hB0.size; exact bel)
      rw [← hgx] at x0 x1 x2 hsz hsz3 ⊢
      replace hq0 : g0 < w3.heap.size := by omega
      replace hq1 : g0 + 1 < w3.heap.size := by omega
      have hqx : gx < w3.heap.size := by omega
      clear hgx hb
      obtain ⟨w1, rfl⟩ : ∃ x, x = w3 := ⟨_, rfl⟩
      by_cases hkb : kp = b.p
      · subst hkb
        go_wp2_with fail
        go_loopw [14, 15, 16] (fun t o i wr => ∃ (k : Nat) (to_ : Option Addr) (tc : Nat) (uo : Option Addr) (uc : Nat), k ≤ 16 ∧ i = .int .i64 (k : Nat) ∧ t = .slice to_ k tc ∧ o = .slice uo k uc ∧ OwnI (w1.heap.size + 2) wr (.slice to_ k tc) (upTo 1 k) ∧ OwnI (w1.heap.size + 2) wr (.slice uo k uc) (upTo 100 k) ∧ (∀ b, (Value.slice to_ k tc).ownBlock = some b → (Value.slice uo k uc).ownBlock = some b → False) ∧ Below w1.heap.size w1 wr ∧ w1.heap.size + 2 ≤ wr.heap.size ∧ wr.cell? ⟨w1.heap.size, 0, none⟩ = some (.int .i64 b.p) ∧ wr.cell? ⟨w1.heap.size, 1, none⟩ = some (.int .i64 b.c) ∧ wr.cell? ⟨w1.heap.size, 2, none⟩ = some (.int .i64 b.b) ∧ wr.cell? ⟨w1.heap.size + 1, 0, none⟩ = some (.int .i64 a.p) ∧ wr.cell? ⟨w1.heap.size + 1, 1, none⟩ = some (.int .i64 a.c) ∧ wr.cell? ⟨w1.heap.size + 1, 2, none⟩ = some (.int .i64 a.b)) (fun _ _ i _ => 16 - (intOf i).toNat)
        case atStart =>
          refine ⟨0, _, _, _, _, Nat.zero_le _, rfl, rfl, rfl, (Own.empty' _ _ _ _ _ _ (by simp only [World.size_alloc]) (by simp only [World.size_alloc]; omega)).alloc _, Own.empty' _ _ _ _ _ _ (by simp only [World.size_alloc]) (by simp only [World.size_alloc]; omega), ?_, ?_, by simp only [World.size_alloc]; omega, by go_simp, by go_simp, by go_simp, by go_simp, by go_simp, by go_simp⟩
          · intro b h1 h2
            simp [Value.ownBlock] at h1 h2
            omega
          · exact bel
        case round =>
          obtain ⟨k, to_, tc, uo, uc, hk, rfl, rfl, rfl, hT, hU, hap, hbel, hwz, k_0, k_1, k_2, m_0, m_1, m_2⟩ := hrel
          have HT := Lib.hid hT; have HU := Lib.hid hU; have HAP := Lib.hid hap; have HL := Lib.hid hbel
          have hLs := hbel.size
          clear hT hU hap hbel
          by_cases hlt : k < 16
          · have hkI : (k : Int) < 16 := by omega
            have hkz : w1.heap.size < wr.heap.size := by omega
            have hmz : w1.heap.size + 1 < wr.heap.size := by omega
            go_wp2_with (first | (at_builtin; refine wpList_append1 elemInt rfl _ _ rfl lenInt rfl (HT.out.alloc _) (by simp only [World.size_alloc]; omega) rfl ((k : Int) + 1) (oneInt _) (intCell _ _) (by simp only [upTo_len, maxLen]; omega) ?_; intro v2 w2 hown2 hgr2 hat2 hb2; have hz2 := hb2.size; simp only [World.size_alloc] at hz2; have HU2 := Lib.hid ((HU.out.alloc _).kept (fun b hb => hgr2.block b ((HU.out.alloc _).lt b hb).2 (fun e => HAP.out b e.symm hb))); have HAP2 := Lib.hid (apart_step HAP.out hat2 (fun b hb => by have := (HU.out.lt b hb).2; simp only [World.size_alloc]; omega)); obtain ⟨t2o, t2c, rfl, -, -⟩ := hown2.shape; have HT2 := Lib.hid hown2; have HB2 := Lib.hid hb2; clear hown2 hgr2 hat2 hb2) | (at_builtin; refine wpList_append1 elemInt rfl _ _ rfl lenInt rfl (HU2.out.alloc _) (by simp only [World.size_alloc]; omega) rfl (100 + (k : Int)) (oneInt _) (intCell _ _) (by simp only [upTo_len, maxLen]; omega) ?_; intro v3 w3 hown3 hgr3 hat3 hb3; have hz3 := hb3.size; simp only [World.size_alloc] at hz3; have HT3 := Lib.hid ((HT2.out.alloc _).kept (fun b hb => hgr3.block b ((HT2.out.alloc _).lt b hb).2 (fun e => HAP2.out b hb e.symm))); have HAP3 := Lib.hid (apart_step' HAP2.out hat3 (fun b hb => by have := (HT2.out.lt b hb).2; simp only [World.size_alloc]; omega)); obtain ⟨u3o, u3c, rfl, -, -⟩ := hown3.shape; have HU3 := Lib.hid hown3; have HB3 := Lib.hid hb3; clear hown3 hgr3 hat3 hb3))
            go_roundw
            case rel =>
              have b23 : Below (w1.heap.size + 2) wr w3 := by (have hb2 := HB2.out; have hb3 := HB3.out; exact bel)
              have e1 : upTo 1 k ++ [(k : Int) + 1] = upTo 1 (k + 1) := by rw [upTo, Int.add_comm]
              have e2 : upTo 100 k ++ [100 + (k : Int)] = upTo 100 (k + 1) := rfl
              rw [e1, e2, upTo_len, upTo_len] at HAP3
              rw [e1, upTo_len] at HT3
              rw [e2, upTo_len] at HU3
              have hL := HL.out
              exact ⟨k + 1, t2o, t2c, u3o, u3c, by omega, by go_num, by rw [upTo_len], by rw [upTo_len], HT3.out, HU3.out, HAP3.out, hL.trans (b23.mono (by omega)), by omega, (b23.cell (p := ⟨w1.heap.size, 0, none⟩) (by (try dsimp only); omega)).trans k_0, (b23.cell (p := ⟨w1.heap.size, 1, none⟩) (by (try dsimp only); omega)).trans k_1, (b23.cell (p := ⟨w1.heap.size, 2, none⟩) (by (try dsimp only); omega)).trans k_2, (b23.cell (p := ⟨w1.heap.size + 1, 0, none⟩) (by (try dsimp only); omega)).trans m_0, (b23.cell (p := ⟨w1.heap.size + 1, 1, none⟩) (by (try dsimp only); omega)).trans m_1, (b23.cell (p := ⟨w1.heap.size + 1, 2, none⟩) (by (try dsimp only); omega)).trans m_2⟩
            case measure => simp [intOf]; omega
          · have hkI : ¬ (k : Int) < 16 := by omega
            obtain rfl : k = 16 := by omega
            clear HAP hkI hlt hk
            replace d0 : wr.cell? ⟨g0, 0, none⟩ = some (.int .i64 a.p) := (HL.out.cell (p := ⟨g0, 0, none⟩) (by (try dsimp only); omega)).trans d0
            replace d1 : wr.cell? ⟨g0, 1, none⟩ = some (.int .i64 a.c) := (HL.out.cell (p := ⟨g0, 1, none⟩) (by (try dsimp only); omega)).trans d1
            replace d2 : wr.cell? ⟨g0, 2, none⟩ = some (.int .i64 a.b) := (HL.out.cell (p := ⟨g0, 2, none⟩) (by (try dsimp only); omega)).trans d2
            replace f0 : wr.cell? ⟨g0 + 1, 0, none⟩ = some (.int .i64 b.p) := (HL.out.cell (p := ⟨g0 + 1, 0, none⟩) (by (try dsimp only); omega)).trans f0
            replace f1 : wr.cell? ⟨g0 + 1, 1, none⟩ = some (.int .i64 b.c) := (HL.out.cell (p := ⟨g0 + 1, 1, none⟩) (by (try dsimp only); omega)).trans f1
            replace f2 : wr.cell? ⟨g0 + 1, 2, none⟩ = some (.int .i64 b.b) := (HL.out.cell (p := ⟨g0 + 1, 2, none⟩) (by (try dsimp only); omega)).trans f2
            replace x0 : wr.cell? ⟨gx, 0, none⟩ = some (.int .i64 b.p) := (HL.out.cell (p := ⟨gx, 0, none⟩) (by (try dsimp only); omega)).trans x0
            replace x1 : wr.cell? ⟨gx, 1, none⟩ = some (.int .i64 mv) := (HL.out.cell (p := ⟨gx, 1, none⟩) (by (try dsimp only); omega)).trans x1
            replace x2 : wr.cell? ⟨gx, 2, none⟩ = some (.slice xo cs.length xcap) := (HL.out.cell (p := ⟨gx, 2, none⟩) (by (try dsimp only); omega)).trans x2
            replace HOX := Lib.hid (HOX.out.below HL.out)
            replace HB := Lib.hid (HB.out.trans (HL.out.mono HB.out.size))
            obtain ⟨gk, hgk⟩ : ∃ x, x = w1.heap.size := ⟨_, rfl⟩
            obtain ⟨gm, hgm⟩ : ∃ x, x = w1.heap.size + 1 := ⟨_, rfl⟩
            rw [← hgm] at m_0 m_1 m_2 ⊢; rw [← hgk] at k_0 k_1 k_2 ⊢
            replace hq0 : g0 < wr.heap.size := by omega
            replace hq1 : g0 + 1 < wr.heap.size := by omega
            replace hqx : gx < wr.heap.size := by omega
            have hqk : gk < wr.heap.size := by omega
            have hqm : gm < wr.heap.size := by omega
            clear hgk hgm HL hLs hsz hsz3 hwz
            obtain ⟨w1, rfl⟩ : ∃ x, x = wr := ⟨_, rfl⟩
            go_wp2_with fail
            refine (i_MergedText b.p mv _ _ _ (upTo 1 16) (upTo 100 16) cs _ (HT.out.at lenInt) (HU.out.at lenInt) HOX.out).mono ?_; rintro e w2 ⟨ov, rfl, hown, hb⟩
            rw [show mergedText b.p mv cs (upTo 1 16) (upTo 100 16) = copyRow (upTo 100 16) (upTo 1 16) cs by unfold mergedText; rw [PF.out.ok]; simp [upTo_len]] at hown
            have hos16 : (copyRow (upTo 100 16) (upTo 1 16) cs).length = 16 := by rw [copyRow_len, upTo_len]
            have PO := Lib.hid PF.out.out
            generalize copyRow (upTo 100 16) (upTo 1 16) cs = os at *
            obtain ⟨oo, oc, rfl, -, -, hrd⟩ := IntsAt.open (hown.at lenInt)
            rw [hos16]
            have HRD := Lib.hid hrd; clear hrd hown HT HU
            replace d0 : w2.cell? ⟨g0, 0, none⟩ = some (.int .i64 a.p) := (hb.cell (p := ⟨g0, 0, none⟩) (by (try dsimp only); omega)).trans d0
            replace d1 : w2.cell? ⟨g0, 1, none⟩ = some (.int .i64 a.c) := (hb.cell (p := ⟨g0, 1, none⟩) (by (try dsimp only); omega)).trans d1
            replace d2 : w2.cell? ⟨g0, 2, none⟩ = some (.int .i64 a.b) := (hb.cell (p := ⟨g0, 2, none⟩) (by (try dsimp only); omega)).trans d2
            replace f0 : w2.cell? ⟨g0 + 1, 0, none⟩ = some (.int .i64 b.p) := (hb.cell (p := ⟨g0 + 1, 0, none⟩) (by (try dsimp only); omega)).trans f0
            replace f1 : w2.cell? ⟨g0 + 1, 1, none⟩ = some (.int .i64 b.c) := (hb.cell (p := ⟨g0 + 1, 1, none⟩) (by (try dsimp only); omega)).trans f1
            replace f2 : w2.cell? ⟨g0 + 1, 2, none⟩ = some (.int .i64 b.b) := (hb.cell (p := ⟨g0 + 1, 2, none⟩) (by (try dsimp only); omega)).trans f2
            replace x0 : w2.cell? ⟨gx, 0, none⟩ = some (.int .i64 b.p) := (hb.cell (p := ⟨gx, 0, none⟩) (by (try dsimp only); omega)).trans x0
            replace x1 : w2.cell? ⟨gx, 1, none⟩ = some (.int .i64 mv) := (hb.cell (p := ⟨gx, 1, none⟩) (by (try dsimp only); omega)).trans x1
            replace x2 : w2.cell? ⟨gx, 2, none⟩ = some (.slice xo cs.length xcap) := (hb.cell (p := ⟨gx, 2, none⟩) (by (try dsimp only); omega)).trans x2
            replace k_0 : w2.cell? ⟨gk, 0, none⟩ = some (.int .i64 b.p) := (hb.cell (p := ⟨gk, 0, none⟩) (by (try dsimp only); omega)).trans k_0
            replace k_1 : w2.cell? ⟨gk, 1, none⟩ = some (.int .i64 b.c) := (hb.cell (p := ⟨gk, 1, none⟩) (by (try dsimp only); omega)).trans k_1
            replace k_2 : w2.cell? ⟨gk, 2, none⟩ = some (.int .i64 b.b) := (hb.cell (p := ⟨gk, 2, none⟩) (by (try dsimp only); omega)).trans k_2
            replace m_0 : w2.cell? ⟨gm, 0, none⟩ = some (.int .i64 a.p) := (hb.cell (p := ⟨gm, 0, none⟩) (by (try dsimp only); omega)).trans m_0
            replace m_1 : w2.cell? ⟨gm, 1, none⟩ = some (.int .i64 a.c) := (hb.cell (p := ⟨gm, 1, none⟩) (by (try dsimp only); omega)).trans m_1
            replace m_2 : w2.cell? ⟨gm, 2, none⟩ = some (.int .i64 a.b) := (hb.cell (p := ⟨gm, 2, none⟩) (by (try dsimp only); omega)).trans m_2
            replace HOX := Lib.hid (HOX.out.below hb)
            replace HB := Lib.hid (HB.out.trans (hb.mono HB.out.size))
            have hbs := hb.size
            replace hq0 : g0 < w2.heap.size := by omega
            replace hq1 : g0 + 1 < w2.heap.size := by omega
            replace hqx : gx < w2.heap.size := by omega
            replace hqk : gk < w2.heap.size := by omega
            replace hqm : gm < w2.heap.size := by omega
            clear hb hbs
            obtain ⟨w1, rfl⟩ : ∃ x, x = w2 := ⟨_, rfl⟩
            have hcs := classSize_four' PF.out.cls
            have PO2 : Hid (∀ i : Nat, i < 16 → (hasSlot b.b ((i : Int) / classSize a.c) = true → os.getD i 0 = (i : Int) + 1) ∧ (hasSlot a.b ((i : Int) / classSize a.c) = true → os.getD i 0 = 100 + (i : Int))) := by (have h := PO.out; simp only [if_true] at h; exact h)
            clear PO
            go_wp2_with fail
            go_loopw [18] (fun i wr => ∃ k : Nat, k ≤ 16 ∧ i = .int .i64 (k : Nat) ∧ Below w1.heap.size w1 wr) (fun i _ => 16 - (intOf i).toNat)
            case atStart => exact ⟨0, Nat.zero_le _, rfl, Below.refl _ _⟩
            case round =>
              obtain ⟨k, hk, rfl, hbel⟩ := hrel
              have HL := Lib.hid hbel; clear hbel
              by_cases hlt : k < 16
              · have hkI : (k : Int) < 16 := by omega
                have hx0 : os[k]? = some (os.getD k 0) := by rw [List.getD_eq_getElem?_getD, List.getElem?_eq_getElem (by omega), Option.getD_some]
                obtain ⟨go_, oo_, rfl, hgo, c0⟩ := HRD.out k _ hx0
                have P2 := PO2.out k hlt
                generalize os.getD k 0 = ox at *
                replace c0 := (HL.out.cell (p := ⟨go_, oo_ + k, none⟩) hgo).trans c0
                have k2 := (HL.out.cell (p := ⟨gk, 2, none⟩) hqk).trans k_2
                have m2 := (HL.out.cell (p := ⟨gm, 2, none⟩) hqm).trans m_2
                have c1 := (HL.out.cell (p := ⟨g0, 1, none⟩) hq0).trans d1
                have hz := HL.out.size
                have r0 : g0 < wr.heap.size := by omega
                have r1 : gk < wr.heap.size := by omega
                have r2 : gm < wr.heap.size := by omega
                have r3 : go_ < wr.heap.size := by omega
                have dw := div_w (k := (k : Int)) (m := classSize a.c) (by omega) hcs.1 (by omega)
                have dw1 := dw.1; have dw2 := dw.2; clear dw
                clear hx0 hgo
                obtain ⟨w5, rfl⟩ : ∃ x, x = wr := ⟨_, rfl⟩
                obtain ⟨hk1, hk2⟩ := P2
                have hall : allLt [g0, gk, gm, go_] w5.heap.size := ⟨r0, r1, r2, r3, trivial⟩
                have hx := hall
                simp only [allLt, and_true] at hx
                have rl : ∀ W, Below w5.heap.size w5 W → ∃ k' : Nat, k' ≤ 16 ∧ (Value.int .i64 ((k : Int) + 1)) = .int .i64 (k' : Nat) ∧ Below w1.heap.size w1 W := fun W hW => ⟨k + 1, by omega, by go_num, HL.out.trans (hW.mono HL.out.size)⟩
                have RL := Lib.hid rl; clear rl
                cases hKS : hasSlot b.b ((k : Int) / classSize a.c) <;> cases hMS : hasSlot a.b ((k : Int) / classSize a.c)
                · clear hk1 hk2
                  go_wp2_with (first | (go_at_call 54; (refine (s_ClassSize _ _).mono ?_); rintro e w2 ⟨rfl, rfl⟩) | (go_at_call 22; (first | (refine (s_HasSlot _ _ true (by assumption) _).mono ?_) | (refine (s_HasSlot _ _ false (by assumption) _).mono ?_) | (refine (s_HasSlot _ _ _ rfl _).mono ?_)); rintro e w2 ⟨rfl, rfl⟩) | (with_reducible refine wp_region_grew2 (by kernel_rfl) (by kernel_rfl) ?_; intro w2 hb; (first | have hn := nw4 hb hall (by exact zo) | have hn := nw3 hb hall (by exact zo) | have hn := nw2 hb hall (by exact zo) | have hn := nw1 hb hall (by exact zo) | have hn := nw0 hb hall (by exact zo)); obtain ⟨hc, hf, hn, hc0⟩ := hn; replace hall := hn; clear hn; have hz := hb.size; (try simp only [World.size_alloc, World.size_setCell, World.size_drew] at hz); have hx := hall; (try simp only [allLt, and_true] at hx); obtain ⟨w1, rfl⟩ : ∃ x, x = w2 := ⟨_, rfl⟩; (repeat (go_big_quiet_step (first | (go_at_call 54; exact calls_same (s_ClassSize _ _)) | (go_at_call 22; first | exact calls_same (s_HasSlot _ _ true (by assumption) _) | exact calls_same (s_HasSlot _ _ false (by assumption) _) | exact calls_same (s_HasSlot _ _ _ rfl _))))); refine wpQuiet_nil ?_; intro w2 hw'; have hb := grew_below hw'; clear hw'; (first | have hn := nw4 hb hall (by exact zo) | have hn := nw3 hb hall (by exact zo) | have hn := nw2 hb hall (by exact zo) | have hn := nw1 hb hall (by exact zo) | have hn := nw0 hb hall (by exact zo)); obtain ⟨hc, hf, hn, hc0⟩ := hn; replace hall := hn; clear hn; have hz := hb.size; (try simp only [World.size_alloc, World.size_setCell, World.size_drew] at hz); have hx := hall; (try simp only [allLt, and_true] at hx); obtain ⟨w1, rfl⟩ : ∃ x, x = w2 := ⟨_, rfl⟩))
                  go_roundw
                  case rel => exact RL.out _ (by exact bel)
                  case measure => simp [intOf]; omega
                · obtain rfl := hk2 hMS
                  clear hk1 hk2
                  go_wp2_with (first | (go_at_call 54; (refine (s_ClassSize _ _).mono ?_); rintro e w2 ⟨rfl, rfl⟩) | (go_at_call 22; (first | (refine (s_HasSlot _ _ true (by assumption) _).mono ?_) | (refine (s_HasSlot _ _ false (by assumption) _).mono ?_) | (refine (s_HasSlot _ _ _ rfl _).mono ?_)); rintro e w2 ⟨rfl, rfl⟩) | (with_reducible refine wp_region_grew2 (by kernel_rfl) (by kernel_rfl) ?_; intro w2 hb; (first | have hn := nw4 hb hall (by exact zo) | have hn := nw3 hb hall (by exact zo) | have hn := nw2 hb hall (by exact zo) | have hn := nw1 hb hall (by exact zo) | have hn := nw0 hb hall (by exact zo)); obtain ⟨hc, hf, hn, hc0⟩ := hn; replace hall := hn; clear hn; have hz := hb.size; (try simp only [World.size_alloc, World.size_setCell, World.size_drew] at hz); have hx := hall; (try simp only [allLt, and_true] at hx); obtain ⟨w1, rfl⟩ : ∃ x, x = w2 := ⟨_, rfl⟩; (repeat (go_big_quiet_step (first | (go_at_call 54; exact calls_same (s_ClassSize _ _)) | (go_at_call 22; first | exact calls_same (s_HasSlot _ _ true (by assumption) _) | exact calls_same (s_HasSlot _ _ false (by assumption) _) | exact calls_same (s_HasSlot _ _ _ rfl _))))); refine wpQuiet_nil ?_; intro w2 hw'; have hb := grew_below hw'; clear hw'; (first | have hn := nw4 hb hall (by exact zo) | have hn := nw3 hb hall (by exact zo) | have hn := nw2 hb hall (by exact zo) | have hn := nw1 hb hall (by exact zo) | have hn := nw0 hb hall (by exact zo)); obtain ⟨hc, hf, hn, hc0⟩ := hn; replace hall := hn; clear hn; have hz := hb.size; (try simp only [World.size_alloc, World.size_setCell, World.size_drew] at hz); have hx := hall; (try simp only [allLt, and_true] at hx); obtain ⟨w1, rfl⟩ : ∃ x, x = w2 := ⟨_, rfl⟩))
                  go_roundw
                  case rel => exact RL.out _ (by exact bel)
                  case measure => simp [intOf]; omega
                · obtain rfl := hk1 hKS
                  clear hk1 hk2
                  go_wp2_with (first | (go_at_call 54; (refine (s_ClassSize _ _).mono ?_); rintro e w2 ⟨rfl, rfl⟩) | (go_at_call 22; (first | (refine (s_HasSlot _ _ true (by assumption) _).mono ?_) | (refine (s_HasSlot _ _ false (by assumption) _).mono ?_) | (refine (s_HasSlot _ _ _ rfl _).mono ?_)); rintro e w2 ⟨rfl, rfl⟩) | (with_reducible refine wp_region_grew2 (by kernel_rfl) (by kernel_rfl) ?_; intro w2 hb; (first | have hn := nw4 hb hall (by exact zo) | have hn := nw3 hb hall (by exact zo) | have hn := nw2 hb hall (by exact zo) | have hn := nw1 hb hall (by exact zo) | have hn := nw0 hb hall (by exact zo)); obtain ⟨hc, hf, hn, hc0⟩ := hn; replace hall := hn; clear hn; have hz := hb.size; (try simp only [World.size_alloc, World.size_setCell, World.size_drew] at hz); have hx := hall; (try simp only [allLt, and_true] at hx); obtain ⟨w1, rfl⟩ : ∃ x, x = w2 := ⟨_, rfl⟩; (repeat (go_big_quiet_step (first | (go_at_call 54; exact calls_same (s_ClassSize _ _)) | (go_at_call 22; first | exact calls_same (s_HasSlot _ _ true (by assumption) _) | exact calls_same (s_HasSlot _ _ false (by assumption) _) | exact calls_same (s_HasSlot _ _ _ rfl _))))); refine wpQuiet_nil ?_; intro w2 hw'; have hb := grew_below hw'; clear hw'; (first | have hn := nw4 hb hall (by exact zo) | have hn := nw3 hb hall (by exact zo) | have hn := nw2 hb hall (by exact zo) | have hn := nw1 hb hall (by exact zo) | have hn := nw0 hb hall (by exact zo)); obtain ⟨hc, hf, hn, hc0⟩ := hn; replace hall := hn; clear hn; have hz := hb.size; (try simp only [World.size_alloc, World.size_setCell, World.size_drew] at hz); have hx := hall; (try simp only [allLt, and_true] at hx); obtain ⟨w1, rfl⟩ : ∃ x, x = w2 := ⟨_, rfl⟩))
                  go_roundw
                  case rel => exact RL.out _ (by exact bel)
                  case measure => simp [intOf]; omega
                · have e1 := hk1 hKS; have e2 := hk2 hMS; omega
              · have hkI : ¬ (k : Int) < 16 := by omega
                clear hk hlt
                replace x0 : wr.cell? ⟨gx, 0, none⟩ = some (.int .i64 b.p) := (HL.out.cell (p := ⟨gx, 0, none⟩) (by (try dsimp only); omega)).trans x0
                replace x1 : wr.cell? ⟨gx, 1, none⟩ = some (.int .i64 mv) := (HL.out.cell (p := ⟨gx, 1, none⟩) (by (try dsimp only); omega)).trans x1
                replace x2 : wr.cell? ⟨gx, 2, none⟩ = some (.slice xo cs.length xcap) := (HL.out.cell (p := ⟨gx, 2, none⟩) (by (try dsimp only); omega)).trans x2
                replace k_0 : wr.cell? ⟨gk, 0, none⟩ = some (.int .i64 b.p) := (HL.out.cell (p := ⟨gk, 0, none⟩) (by (try dsimp only); omega)).trans k_0
                replace k_1 : wr.cell? ⟨gk, 1, none⟩ = some (.int .i64 b.c) := (HL.out.cell (p := ⟨gk, 1, none⟩) (by (try dsimp only); omega)).trans k_1
                replace k_2 : wr.cell? ⟨gk, 2, none⟩ = some (.int .i64 b.b) := (HL.out.cell (p := ⟨gk, 2, none⟩) (by (try dsimp only); omega)).trans k_2
                replace m_0 : wr.cell? ⟨gm, 0, none⟩ = some (.int .i64 a.p) := (HL.out.cell (p := ⟨gm, 0, none⟩) (by (try dsimp only); omega)).trans m_0
                replace m_1 : wr.cell? ⟨gm, 1, none⟩ = some (.int .i64 a.c) := (HL.out.cell (p := ⟨gm, 1, none⟩) (by (try dsimp only); omega)).trans m_1
                replace m_2 : wr.cell? ⟨gm, 2, none⟩ = some (.int .i64 a.b) := (HL.out.cell (p := ⟨gm, 2, none⟩) (by (try dsimp only); omega)).trans m_2
                replace HOX := Lib.hid (HOX.out.below HL.out)
                replace HB := Lib.hid (HB.out.trans (HL.out.mono HB.out.size))
                have hls := HL.out.size
                replace hqx : gx < wr.heap.size := by omega
                replace hqk : gk < wr.heap.size := by omega
                replace hqm : gm < wr.heap.size := by omega
                clear HL hls d0 d1 d2 f0 f1 f2 HRD PO2 hq0 hq1
                obtain ⟨w1, rfl⟩ : ∃ x, x = wr := ⟨_, rfl⟩
                have hmv : cs = spanCells a.p a.c a.b := by (have h := PF.out.mvc; rw [if_pos rfl] at h; exact h)
                have hkl : cs.length ≤ (spanCells b.p b.c b.b).length := by (have h := PF.out.kl; rw [if_pos rfl] at h; exact h)
                have hklI : (cs.length : Int) ≤ ((spanCells b.p b.c b.b).length : Nat) := by omega
                have hcl := PF.out.len
                have hps : planSaves b.p mv cs = 16 - (cs.length : Int) := by unfold planSaves; rw [PF.out.ok]; rfl
                have HMV := Lib.hid hmv; clear hmv
                go_wp2_with fail
                go_region_held3 (fun w' => w'.cell? ⟨gx, 0, none⟩ = some (.int .i64 b.p) ∧ w'.cell? ⟨gx, 1, none⟩ = some (.int .i64 mv) ∧ w'.cell? ⟨gx, 2, none⟩ = some (.slice xo cs.length xcap) ∧ w'.cell? ⟨gk, 0, none⟩ = some (.int .i64 b.p) ∧ w'.cell? ⟨gk, 1, none⟩ = some (.int .i64 b.c) ∧ w'.cell? ⟨gk, 2, none⟩ = some (.int .i64 b.b) ∧ w'.cell? ⟨gm, 0, none⟩ = some (.int .i64 a.p) ∧ w'.cell? ⟨gm, 1, none⟩ = some (.int .i64 a.c) ∧ w'.cell? ⟨gm, 2, none⟩ = some (.int .i64 a.b)) (first | (refine ⟨?_, ?_, ?_, ?_, ?_, ?_, ?_, ?_, ?_⟩ <;> (go_simp; done)) | go_keep) (first | (go_at_call_of 55 (Value.agg #[.int .i64 b.p, .int .i64 b.c, .int .i64 b.b]); (refine (s_SpanCells b.p b.c b.b _).mono ?_; intro e w2 hnew; obtain ⟨kao, kcap, rfl, hownN, hb⟩ := hnew.open; clear hnew hownN; have HB1 := Lib.hid hb; have kwa_gx_0 : w2.cell? ⟨gx, 0, none⟩ = some (.int .i64 b.p) := kc hb; have kwa_gx_1 : w2.cell? ⟨gx, 1, none⟩ = some (.int .i64 mv) := kc hb; have kwa_gx_2 : w2.cell? ⟨gx, 2, none⟩ = some (.slice xo cs.length xcap) := kc hb; have kwa_gk_0 : w2.cell? ⟨gk, 0, none⟩ = some (.int .i64 b.p) := kc hb; have kwa_gk_1 : w2.cell? ⟨gk, 1, none⟩ = some (.int .i64 b.c) := kc hb; have kwa_gk_2 : w2.cell? ⟨gk, 2, none⟩ = some (.int .i64 b.b) := kc hb; have kwa_gm_0 : w2.cell? ⟨gm, 0, none⟩ = some (.int .i64 a.p) := kc hb; have kwa_gm_1 : w2.cell? ⟨gm, 1, none⟩ = some (.int .i64 a.c) := kc hb; have kwa_gm_2 : w2.cell? ⟨gm, 2, none⟩ = some (.int .i64 a.b) := kc hb; have xwa_gx : gx < w2.heap.size := xc hb; have xwa_gk : gk < w2.heap.size := xc hb; have xwa_gm : gm < w2.heap.size := xc hb; have hzwa := hb.size; (try simp only [World.size_alloc, World.size_setCell, World.size_drew] at hzwa); obtain ⟨wa, rfl⟩ : ∃ x, x = w2 := ⟨_, rfl⟩)) | (go_at_call_of 55 (Value.agg #[.int .i64 a.p, .int .i64 a.c, .int .i64 a.b]); (refine (s_SpanCells a.p a.c a.b _).mono ?_; intro e w2 hnew; obtain ⟨mao, mcap, rfl, hownN, hb⟩ := hnew.open; clear hnew; have HON := Lib.hid (hownN.at lenInt); clear hownN; have HB2 := Lib.hid hb; have kwb_gx_0 : w2.cell? ⟨gx, 0, none⟩ = some (.int .i64 b.p) := kc hb; have kwb_gx_1 : w2.cell? ⟨gx, 1, none⟩ = some (.int .i64 mv) := kc hb; have kwb_gx_2 : w2.cell? ⟨gx, 2, none⟩ = some (.slice xo cs.length xcap) := kc hb; have kwb_gk_0 : w2.cell? ⟨gk, 0, none⟩ = some (.int .i64 b.p) := kc hb; have kwb_gk_1 : w2.cell? ⟨gk, 1, none⟩ = some (.int .i64 b.c) := kc hb; have kwb_gk_2 : w2.cell? ⟨gk, 2, none⟩ = some (.int .i64 b.b) := kc hb; have kwb_gm_0 : w2.cell? ⟨gm, 0, none⟩ = some (.int .i64 a.p) := kc hb; have kwb_gm_1 : w2.cell? ⟨gm, 1, none⟩ = some (.int .i64 a.c) := kc hb; have kwb_gm_2 : w2.cell? ⟨gm, 2, none⟩ = some (.int .i64 a.b) := kc hb; have xwb_gx : gx < w2.heap.size := xc hb; have xwb_gk : gk < w2.heap.size := xc hb; have xwb_gm : gm < w2.heap.size := xc hb; have hzwb := hb.size; (try simp only [World.size_alloc, World.size_setCell, World.size_drew] at hzwb); obtain ⟨wb, rfl⟩ : ∃ x, x = w2 := ⟨_, rfl⟩)) | (go_at_call 56; (refine (l_sameInts _ _ cs _ (HOX.out.below (by (have hB1 := HB1.out; have hB2 := HB2.out; exact bel))) (by (rw [HMV.out] ; exact HON.out.below (by exact bel)))).mono ?_; rintro e w2 ⟨rfl, hb⟩; have HB3 := Lib.hid hb; have kwcc_gx_0 : w2.cell? ⟨gx, 0, none⟩ = some (.int .i64 b.p) := kc hb; have kwcc_gx_1 : w2.cell? ⟨gx, 1, none⟩ = some (.int .i64 mv) := kc hb; have kwcc_gx_2 : w2.cell? ⟨gx, 2, none⟩ = some (.slice xo cs.length xcap) := kc hb; have kwcc_gk_0 : w2.cell? ⟨gk, 0, none⟩ = some (.int .i64 b.p) := kc hb; have kwcc_gk_1 : w2.cell? ⟨gk, 1, none⟩ = some (.int .i64 b.c) := kc hb; have kwcc_gk_2 : w2.cell? ⟨gk, 2, none⟩ = some (.int .i64 b.b) := kc hb; have kwcc_gm_0 : w2.cell? ⟨gm, 0, none⟩ = some (.int .i64 a.p) := kc hb; have kwcc_gm_1 : w2.cell? ⟨gm, 1, none⟩ = some (.int .i64 a.c) := kc hb; have kwcc_gm_2 : w2.cell? ⟨gm, 2, none⟩ = some (.int .i64 a.b) := kc hb; have xwcc_gx : gx < w2.heap.size := xc hb; have xwcc_gk : gk < w2.heap.size := xc hb; have xwcc_gm : gm < w2.heap.size := xc hb; have hzwcc := hb.size; (try simp only [World.size_alloc, World.size_setCell, World.size_drew] at hzwcc); obtain ⟨wcc, rfl⟩ : ∃ x, x = w2 := ⟨_, rfl⟩)) | (go_at_call 51; (refine (i_PlanSaves b.p mv _ cs _ (HOX.out.below (by (have hB1 := HB1.out; have hB2 := HB2.out; have hB3 := HB3.out; exact bel)))).mono ?_; rintro e w2 ⟨rfl, hb⟩; rw [hps]; have HB4 := Lib.hid hb; have kwd_gx_0 : w2.cell? ⟨gx, 0, none⟩ = some (.int .i64 b.p) := kc hb; have kwd_gx_1 : w2.cell? ⟨gx, 1, none⟩ = some (.int .i64 mv) := kc hb; have kwd_gx_2 : w2.cell? ⟨gx, 2, none⟩ = some (.slice xo cs.length xcap) := kc hb; have kwd_gk_0 : w2.cell? ⟨gk, 0, none⟩ = some (.int .i64 b.p) := kc hb; have kwd_gk_1 : w2.cell? ⟨gk, 1, none⟩ = some (.int .i64 b.c) := kc hb; have kwd_gk_2 : w2.cell? ⟨gk, 2, none⟩ = some (.int .i64 b.b) := kc hb; have kwd_gm_0 : w2.cell? ⟨gm, 0, none⟩ = some (.int .i64 a.p) := kc hb; have kwd_gm_1 : w2.cell? ⟨gm, 1, none⟩ = some (.int .i64 a.c) := kc hb; have kwd_gm_2 : w2.cell? ⟨gm, 2, none⟩ = some (.int .i64 a.b) := kc hb; have xwd_gx : gx < w2.heap.size := xc hb; have xwd_gk : gk < w2.heap.size := xc hb; have xwd_gm : gm < w2.heap.size := xc hb; have hzwd := hb.size; (try simp only [World.size_alloc, World.size_setCell, World.size_drew] at hzwd); obtain ⟨wd, rfl⟩ : ∃ x, x = w2 := ⟨_, rfl⟩)))
                have hwr : IntKind.i64.wrap (16 - (cs.length : Int)) = 16 - (cs.length : Int) := by rw [IntKind.wrap_i64]; omega
                all_goals go_wp2_with fail
                all_goals go_ret
                all_goals (have hB0 := HB.out; have hBs := hB0.size; have hB1 := HB1.out; have hB2 := HB2.out; have hB3 := HB3.out; have hB4 := HB4.out; exact ⟨by simp [hwr], by exact bel⟩)
      · have hkF : (kp == b.p) = false := by simpa using hkb
        go_wp2_with fail
        go_loopw [14, 15, 16] (fun t o i wr => ∃ (k : Nat) (to_ : Option Addr) (tc : Nat) (uo : Option Addr) (uc : Nat), k ≤ 16 ∧ i = .int .i64 (k : Nat) ∧ t = .slice to_ k tc ∧ o = .slice uo k uc ∧ OwnI (w1.heap.size + 2) wr (.slice to_ k tc) (upTo 1 k) ∧ OwnI (w1.heap.size + 2) wr (.slice uo k uc) (upTo 100 k) ∧ (∀ b, (Value.slice to_ k tc).ownBlock = some b → (Value.slice uo k uc).ownBlock = some b → False) ∧ Below w1.heap.size w1 wr ∧ w1.heap.size + 2 ≤ wr.heap.size ∧ wr.cell? ⟨w1.heap.size, 0, none⟩ = some (.int .i64 a.p) ∧ wr.cell? ⟨w1.heap.size, 1, none⟩ = some (.int .i64 a.c) ∧ wr.cell? ⟨w1.heap.size, 2, none⟩ = some (.int .i64 a.b) ∧ wr.cell? ⟨w1.heap.size + 1, 0, none⟩ = some (.int .i64 b.p) ∧ wr.cell? ⟨w1.heap.size + 1, 1, none⟩ = some (.int .i64 b.c) ∧ wr.cell? ⟨w1.heap.size + 1, 2, none⟩ = some (.int .i64 b.b)) (fun _ _ i _ => 16 - (intOf i).toNat)
        case atStart =>
          refine ⟨0, _, _, _, _, Nat.zero_le _, rfl, rfl, rfl, (Own.empty' _ _ _ _ _ _ (by simp only [World.size_alloc]) (by simp only [World.size_alloc]; omega)).alloc _, Own.empty' _ _ _ _ _ _ (by simp only [World.size_alloc]) (by simp only [World.size_alloc]; omega), ?_, ?_, by simp only [World.size_alloc]; omega, by go_simp, by go_simp, by go_simp, by go_simp, by go_simp, by go_simp⟩
          · intro b h1 h2
            simp [Value.ownBlock] at h1 h2
            omega
          · exact bel
        case round =>
          obtain ⟨k, to_, tc, uo, uc, hk, rfl, rfl, rfl, hT, hU, hap, hbel, hwz, k_0, k_1, k_2, m_0, m_1, m_2⟩ := hrel
          have HT := Lib.hid hT; have HU := Lib.hid hU; have HAP := Lib.hid hap; have HL := Lib.hid hbel
          have hLs := hbel.size
          clear hT hU hap hbel
          by_cases hlt : k < 16
          · have hkI : (k : Int) < 16 := by omega
            have hkz : w1.heap.size < wr.heap.size := by omega
            have hmz : w1.heap.size + 1 < wr.heap.size := by omega
            go_wp2_with (first | (at_builtin; refine wpList_append1 elemInt rfl _ _ rfl lenInt rfl (HT.out.alloc _) (by simp only [World.size_alloc]; omega) rfl ((k : Int) + 1) (oneInt _) (intCell _ _) (by simp only [upTo_len, maxLen]; omega) ?_; intro v2 w2 hown2 hgr2 hat2 hb2; have hz2 := hb2.size; simp only [World.size_alloc] at hz2; have HU2 := Lib.hid ((HU.out.alloc _).kept (fun b hb => hgr2.block b ((HU.out.alloc _).lt b hb).2 (fun e => HAP.out b e.symm hb))); have HAP2 := Lib.hid (apart_step HAP.out hat2 (fun b hb => by have := (HU.out.lt b hb).2; simp only [World.size_alloc]; omega)); obtain ⟨t2o, t2c, rfl, -, -⟩ := hown2.shape; have HT2 := Lib.hid hown2; have HB2 := Lib.hid hb2; clear hown2 hgr2 hat2 hb2) | (at_builtin; refine wpList_append1 elemInt rfl _ _ rfl lenInt rfl (HU2.out.alloc _) (by simp only [World.size_alloc]; omega) rfl (100 + (k : Int)) (oneInt _) (intCell _ _) (by simp only [upTo_len, maxLen]; omega) ?_; intro v3 w3 hown3 hgr3 hat3 hb3; have hz3 := hb3.size; simp only [World.size_alloc] at hz3; have HT3 := Lib.hid ((HT2.out.alloc _).kept (fun b hb => hgr3.block b ((HT2.out.alloc _).lt b hb).2 (fun e => HAP2.out b hb e.symm))); have HAP3 := Lib.hid (apart_step' HAP2.out hat3 (fun b hb => by have := (HT2.out.lt b hb).2; simp only [World.size_alloc]; omega)); obtain ⟨u3o, u3c, rfl, -, -⟩ := hown3.shape; have HU3 := Lib.hid hown3; have HB3 := Lib.hid hb3; clear hown3 hgr3 hat3 hb3))
            go_roundw
            case rel =>
              have b23 : Below (w1.heap.size + 2) wr w3 := by (have hb2 := HB2.out; have hb3 := HB3.out; exact bel)
              have e1 : upTo 1 k ++ [(k : Int) + 1] = upTo 1 (k + 1) := by rw [upTo, Int.add_comm]
              have e2 : upTo 100 k ++ [100 + (k : Int)] = upTo 100 (k + 1) := rfl
              rw [e1, e2, upTo_len, upTo_len] at HAP3
              rw [e1, upTo_len] at HT3
              rw [e2, upTo_len] at HU3
              have hL := HL.out
              exact ⟨k + 1, t2o, t2c, u3o, u3c, by omega, by go_num, by rw [upTo_len], by rw [upTo_len], HT3.out, HU3.out, HAP3.out, hL.trans (b23.mono (by omega)), by omega, (b23.cell (p := ⟨w1.heap.size, 0, none⟩) (by (try dsimp only); omega)).trans k_0, (b23.cell (p := ⟨w1.heap.size, 1, none⟩) (by (try dsimp only); omega)).trans k_1, (b23.cell (p := ⟨w1.heap.size, 2, none⟩) (by (try dsimp only); omega)).trans k_2, (b23.cell (p := ⟨w1.heap.size + 1, 0, none⟩) (by (try dsimp only); omega)).trans m_0, (b23.cell (p := ⟨w1.heap.size + 1, 1, none⟩) (by (try dsimp only); omega)).trans m_1, (b23.cell (p := ⟨w1.heap.size + 1, 2, none⟩) (by (try dsimp only); omega)).trans m_2⟩
            case measure => simp [intOf]; omega
          · have hkI : ¬ (k : Int) < 16 := by omega
            obtain rfl : k = 16 := by omega
            clear HAP hkI hlt hk
            replace d0 : wr.cell? ⟨g0, 0, none⟩ = some (.int .i64 a.p) := (HL.out.cell (p := ⟨g0, 0, none⟩) (by (try dsimp only); omega)).trans d0
            replace d1 : wr.cell? ⟨g0, 1, none⟩ = some (.int .i64 a.c) := (HL.out.cell (p := ⟨g0, 1, none⟩) (by (try dsimp only); omega)).trans d1
            replace d2 : wr.cell? ⟨g0, 2, none⟩ = some (.int .i64 a.b) := (HL.out.cell (p := ⟨g0, 2, none⟩) (by (try dsimp only); omega)).trans d2
            replace f0 : wr.cell? ⟨g0 + 1, 0, none⟩ = some (.int .i64 b.p) := (HL.out.cell (p := ⟨g0 + 1, 0, none⟩) (by (try dsimp only); omega)).trans f0
            replace f1 : wr.cell? ⟨g0 + 1, 1, none⟩ = some (.int .i64 b.c) := (HL.out.cell (p := ⟨g0 + 1, 1, none⟩) (by (try dsimp only); omega)).trans f1
            replace f2 : wr.cell? ⟨g0 + 1, 2, none⟩ = some (.int .i64 b.b) := (HL.out.cell (p := ⟨g0 + 1, 2, none⟩) (by (try dsimp only); omega)).trans f2
            replace x0 : wr.cell? ⟨gx, 0, none⟩ = some (.int .i64 kp) := (HL.out.cell (p := ⟨gx, 0, none⟩) (by (try dsimp only); omega)).trans x0
            replace x1 : wr.cell? ⟨gx, 1, none⟩ = some (.int .i64 mv) := (HL.out.cell (p := ⟨gx, 1, none⟩) (by (try dsimp only); omega)).trans x1
            replace x2 : wr.cell? ⟨gx, 2, none⟩ = some (.slice xo cs.length xcap) := (HL.out.cell (p := ⟨gx, 2, none⟩) (by (try dsimp only); omega)).trans x2
            replace HOX := Lib.hid (HOX.out.below HL.out)
            replace HB := Lib.hid (HB.out.trans (HL.out.mono HB.out.size))
            obtain ⟨gk, hgk⟩ : ∃ x, x = w1.heap.size := ⟨_, rfl⟩
            obtain ⟨gm, hgm⟩ : ∃ x, x = w1.heap.size + 1 := ⟨_, rfl⟩
            rw [← hgm] at m_0 m_1 m_2 ⊢; rw [← hgk] at k_0 k_1 k_2 ⊢
            replace hq0 : g0 < wr.heap.size := by omega
            replace hq1 : g0 + 1 < wr.heap.size := by omega
            replace hqx : gx < wr.heap.size := by omega
            have hqk : gk < wr.heap.size := by omega
            have hqm : gm < wr.heap.size := by omega
            clear hgk hgm HL hLs hsz hsz3 hwz
            obtain ⟨w1, rfl⟩ : ∃ x, x = wr := ⟨_, rfl⟩
            go_wp2_with fail
            refine (i_MergedText kp mv _ _ _ (upTo 1 16) (upTo 100 16) cs _ (HT.out.at lenInt) (HU.out.at lenInt) HOX.out).mono ?_; rintro e w2 ⟨ov, rfl, hown, hb⟩
            rw [show mergedText kp mv cs (upTo 1 16) (upTo 100 16) = copyRow (upTo 100 16) (upTo 1 16) cs by unfold mergedText; rw [PF.out.ok]; simp [upTo_len]] at hown
            have hos16 : (copyRow (upTo 100 16) (upTo 1 16) cs).length = 16 := by rw [copyRow_len, upTo_len]
            have PO := Lib.hid PF.out.out
            generalize copyRow (upTo 100 16) (upTo 1 16) cs = os at *
            obtain ⟨oo, oc, rfl, -, -, hrd⟩ := IntsAt.open (hown.at lenInt)
            rw [hos16]
            have HRD := Lib.hid hrd; clear hrd hown HT HU
            replace d0 : w2.cell? ⟨g0, 0, none⟩ = some (.int .i64 a.p) := (hb.cell (p := ⟨g0, 0, none⟩) (by (try dsimp only); omega)).trans d0
            replace d1 : w2.cell? ⟨g0, 1, none⟩ = some (.int .i64 a.c) := (hb.cell (p := ⟨g0, 1, none⟩) (by (try dsimp only); omega)).trans d1
            replace d2 : w2.cell? ⟨g0, 2, none⟩ = some (.int .i64 a.b) := (hb.cell (p := ⟨g0, 2, none⟩) (by (try dsimp only); omega)).trans d2
            replace f0 : w2.cell? ⟨g0 + 1, 0, none⟩ = some (.int .i64 b.p) := (hb.cell (p := ⟨g0 + 1, 0, none⟩) (by (try dsimp only); omega)).trans f0
            replace f1 : w2.cell? ⟨g0 + 1, 1, none⟩ = some (.int .i64 b.c) := (hb.cell (p := ⟨g0 + 1, 1, none⟩) (by (try dsimp only); omega)).trans f1
            replace f2 : w2.cell? ⟨g0 + 1, 2, none⟩ = some (.int .i64 b.b) := (hb.cell (p := ⟨g0 + 1, 2, none⟩) (by (try dsimp only); omega)).trans f2
            replace x0 : w2.cell? ⟨gx, 0, none⟩ = some (.int .i64 kp) := (hb.cell (p := ⟨gx, 0, none⟩) (by (try dsimp only); omega)).trans x0
            replace x1 : w2.cell? ⟨gx, 1, none⟩ = some (.int .i64 mv) := (hb.cell (p := ⟨gx, 1, none⟩) (by (try dsimp only); omega)).trans x1
            replace x2 : w2.cell? ⟨gx, 2, none⟩ = some (.slice xo cs.length xcap) := (hb.cell (p := ⟨gx, 2, none⟩) (by (try dsimp only); omega)).trans x2
            replace k_0 : w2.cell? ⟨gk, 0, none⟩ = some (.int .i64 a.p) := (hb.cell (p := ⟨gk, 0, none⟩) (by (try dsimp only); omega)).trans k_0
            replace k_1 : w2.cell? ⟨gk, 1, none⟩ = some (.int .i64 a.c) := (hb.cell (p := ⟨gk, 1, none⟩) (by (try dsimp only); omega)).trans k_1
            replace k_2 : w2.cell? ⟨gk, 2, none⟩ = some (.int .i64 a.b) := (hb.cell (p := ⟨gk, 2, none⟩) (by (try dsimp only); omega)).trans k_2
            replace m_0 : w2.cell? ⟨gm, 0, none⟩ = some (.int .i64 b.p) := (hb.cell (p := ⟨gm, 0, none⟩) (by (try dsimp only); omega)).trans m_0
            replace m_1 : w2.cell? ⟨gm, 1, none⟩ = some (.int .i64 b.c) := (hb.cell (p := ⟨gm, 1, none⟩) (by (try dsimp only); omega)).trans m_1
            replace m_2 : w2.cell? ⟨gm, 2, none⟩ = some (.int .i64 b.b) := (hb.cell (p := ⟨gm, 2, none⟩) (by (try dsimp only); omega)).trans m_2
            replace HOX := Lib.hid (HOX.out.below hb)
            replace HB := Lib.hid (HB.out.trans (hb.mono HB.out.size))
            have hbs := hb.size
            replace hq0 : g0 < w2.heap.size := by omega
            replace hq1 : g0 + 1 < w2.heap.size := by omega
            replace hqx : gx < w2.heap.size := by omega
            replace hqk : gk < w2.heap.size := by omega
            replace hqm : gm < w2.heap.size := by omega
            clear hb hbs
            obtain ⟨w1, rfl⟩ : ∃ x, x = w2 := ⟨_, rfl⟩
            have hcs := classSize_four' PF.out.cls
            have PO2 : Hid (∀ i : Nat, i < 16 → (hasSlot a.b ((i : Int) / classSize a.c) = true → os.getD i 0 = (i : Int) + 1) ∧ (hasSlot b.b ((i : Int) / classSize a.c) = true → os.getD i 0 = 100 + (i : Int))) := by (have h := PO.out; simp only [if_neg hkb] at h; exact h)
            clear PO
            go_wp2_with fail
            go_loopw [18] (fun i wr => ∃ k : Nat, k ≤ 16 ∧ i = .int .i64 (k : Nat) ∧ Below w1.heap.size w1 wr) (fun i _ => 16 - (intOf i).toNat)
            case atStart => exact ⟨0, Nat.zero_le _, rfl, Below.refl _ _⟩
            case round =>
              obtain ⟨k, hk, rfl, hbel⟩ := hrel
              have HL := Lib.hid hbel; clear hbel
              by_cases hlt : k < 16
              · have hkI : (k : Int) < 16 := by omega
                have hx0 : os[k]? = some (os.getD k 0) := by rw [List.getD_eq_getElem?_getD, List.getElem?_eq_getElem (by omega), Option.getD_some]
                obtain ⟨go_, oo_, rfl, hgo, c0⟩ := HRD.out k _ hx0
                have P2 := PO2.out k hlt
                generalize os.getD k 0 = ox at *
                replace c0 := (HL.out.cell (p := ⟨go_, oo_ + k, none⟩) hgo).trans c0
                have k2 := (HL.out.cell (p := ⟨gk, 2, none⟩) hqk).trans k_2
                have m2 := (HL.out.cell (p := ⟨gm, 2, none⟩) hqm).trans m_2
                have c1 := (HL.out.cell (p := ⟨g0, 1, none⟩) hq0).trans d1
                have hz := HL.out.size
                have r0 : g0 < wr.heap.size := by omega
                have r1 : gk < wr.heap.size := by omega
                have r2 : gm < wr.heap.size := by omega
                have r3 : go_ < wr.heap.size := by omega
                have dw := div_w (k := (k : Int)) (m := classSize a.c) (by omega) hcs.1 (by omega)
                have dw1 := dw.1; have dw2 := dw.2; clear dw
                clear hx0 hgo
                obtain ⟨w5, rfl⟩ : ∃ x, x = wr := ⟨_, rfl⟩
                obtain ⟨hk1, hk2⟩ := P2
                have hall : allLt [g0, gk, gm, go_] w5.heap.size := ⟨r0, r1, r2, r3, trivial⟩
                have hx := hall
                simp only [allLt, and_true] at hx
                have rl : ∀ W, Below w5.heap.size w5 W → ∃ k' : Nat, k' ≤ 16 ∧ (Value.int .i64 ((k : Int) + 1)) = .int .i64 (k' : Nat) ∧ Below w1.heap.size w1 W := fun W hW => ⟨k + 1, by omega, by go_num, HL.out.trans (hW.mono HL.out.size)⟩
                have RL := Lib.hid rl; clear rl
                cases hKS : hasSlot a.b ((k : Int) / classSize a.c) <;> cases hMS : hasSlot b.b ((k : Int) / classSize a.c)
                · clear hk1 hk2
                  go_wp2_with (first | (go_at_call 54; (refine (s_ClassSize _ _).mono ?_); rintro e w2 ⟨rfl, rfl⟩) | (go_at_call 22; (first | (refine (s_HasSlot _ _ true (by assumption) _).mono ?_) | (refine (s_HasSlot _ _ false (by assumption) _).mono ?_) | (refine (s_HasSlot _ _ _ rfl _).mono ?_)); rintro e w2 ⟨rfl, rfl⟩) | (with_reducible refine wp_region_grew2 (by kernel_rfl) (by kernel_rfl) ?_; intro w2 hb; (first | have hn := nw4 hb hall (by exact zo) | have hn := nw3 hb hall (by exact zo) | have hn := nw2 hb hall (by exact zo) | have hn := nw1 hb hall (by exact zo) | have hn := nw0 hb hall (by exact zo)); obtain ⟨hc, hf, hn, hc0⟩ := hn; replace hall := hn; clear hn; have hz := hb.size; (try simp only [World.size_alloc, World.size_setCell, World.size_drew] at hz); have hx := hall; (try simp only [allLt, and_true] at hx); obtain ⟨w1, rfl⟩ : ∃ x, x = w2 := ⟨_, rfl⟩; (repeat (go_big_quiet_step (first | (go_at_call 54; exact calls_same (s_ClassSize _ _)) | (go_at_call 22; first | exact calls_same (s_HasSlot _ _ true (by assumption) _) | exact calls_same (s_HasSlot _ _ false (by assumption) _) | exact calls_same (s_HasSlot _ _ _ rfl _))))); refine wpQuiet_nil ?_; intro w2 hw'; have hb := grew_below hw'; clear hw'; (first | have hn := nw4 hb hall (by exact zo) | have hn := nw3 hb hall (by exact zo) | have hn := nw2 hb hall (by exact zo) | have hn := nw1 hb hall (by exact zo) | have hn := nw0 hb hall (by exact zo)); obtain ⟨hc, hf, hn, hc0⟩ := hn; replace hall := hn; clear hn; have hz := hb.size; (try simp only [World.size_alloc, World.size_setCell, World.size_drew] at hz); have hx := hall; (try simp only [allLt, and_true] at hx); obtain ⟨w1, rfl⟩ : ∃ x, x = w2 := ⟨_, rfl⟩))
                  go_roundw
                  case rel => exact RL.out _ (by exact bel)
                  case measure => simp [intOf]; omega
                · obtain rfl := hk2 hMS
                  clear hk1 hk2
                  go_wp2_with (first | (go_at_call 54; (refine (s_ClassSize _ _).mono ?_); rintro e w2 ⟨rfl, rfl⟩) | (go_at_call 22; (first | (refine (s_HasSlot _ _ true (by assumption) _).mono ?_) | (refine (s_HasSlot _ _ false (by assumption) _).mono ?_) | (refine (s_HasSlot _ _ _ rfl _).mono ?_)); rintro e w2 ⟨rfl, rfl⟩) | (with_reducible refine wp_region_grew2 (by kernel_rfl) (by kernel_rfl) ?_; intro w2 hb; (first | have hn := nw4 hb hall (by exact zo) | have hn := nw3 hb hall (by exact zo) | have hn := nw2 hb hall (by exact zo) | have hn := nw1 hb hall (by exact zo) | have hn := nw0 hb hall (by exact zo)); obtain ⟨hc, hf, hn, hc0⟩ := hn; replace hall := hn; clear hn; have hz := hb.size; (try simp only [World.size_alloc, World.size_setCell, World.size_drew] at hz); have hx := hall; (try simp only [allLt, and_true] at hx); obtain ⟨w1, rfl⟩ : ∃ x, x = w2 := ⟨_, rfl⟩; (repeat (go_big_quiet_step (first | (go_at_call 54; exact calls_same (s_ClassSize _ _)) | (go_at_call 22; first | exact calls_same (s_HasSlot _ _ true (by assumption) _) | exact calls_same (s_HasSlot _ _ false (by assumption) _) | exact calls_same (s_HasSlot _ _ _ rfl _))))); refine wpQuiet_nil ?_; intro w2 hw'; have hb := grew_below hw'; clear hw'; (first | have hn := nw4 hb hall (by exact zo) | have hn := nw3 hb hall (by exact zo) | have hn := nw2 hb hall (by exact zo) | have hn := nw1 hb hall (by exact zo) | have hn := nw0 hb hall (by exact zo)); obtain ⟨hc, hf, hn, hc0⟩ := hn; replace hall := hn; clear hn; have hz := hb.size; (try simp only [World.size_alloc, World.size_setCell, World.size_drew] at hz); have hx := hall; (try simp only [allLt, and_true] at hx); obtain ⟨w1, rfl⟩ : ∃ x, x = w2 := ⟨_, rfl⟩))
                  go_roundw
                  case rel => exact RL.out _ (by exact bel)
                  case measure => simp [intOf]; omega
                · obtain rfl := hk1 hKS
                  clear hk1 hk2
                  go_wp2_with (first | (go_at_call 54; (refine (s_ClassSize _ _).mono ?_); rintro e w2 ⟨rfl, rfl⟩) | (go_at_call 22; (first | (refine (s_HasSlot _ _ true (by assumption) _).mono ?_) | (refine (s_HasSlot _ _ false (by assumption) _).mono ?_) | (refine (s_HasSlot _ _ _ rfl _).mono ?_)); rintro e w2 ⟨rfl, rfl⟩) | (with_reducible refine wp_region_grew2 (by kernel_rfl) (by kernel_rfl) ?_; intro w2 hb; (first | have hn := nw4 hb hall (by exact zo) | have hn := nw3 hb hall (by exact zo) | have hn := nw2 hb hall (by exact zo) | have hn := nw1 hb hall (by exact zo) | have hn := nw0 hb hall (by exact zo)); obtain ⟨hc, hf, hn, hc0⟩ := hn; replace hall := hn; clear hn; have hz := hb.size; (try simp only [World.size_alloc, World.size_setCell, World.size_drew] at hz); have hx := hall; (try simp only [allLt, and_true] at hx); obtain ⟨w1, rfl⟩ : ∃ x, x = w2 := ⟨_, rfl⟩; (repeat (go_big_quiet_step (first | (go_at_call 54; exact calls_same (s_ClassSize _ _)) | (go_at_call 22; first | exact calls_same (s_HasSlot _ _ true (by assumption) _) | exact calls_same (s_HasSlot _ _ false (by assumption) _) | exact calls_same (s_HasSlot _ _ _ rfl _))))); refine wpQuiet_nil ?_; intro w2 hw'; have hb := grew_below hw'; clear hw'; (first | have hn := nw4 hb hall (by exact zo) | have hn := nw3 hb hall (by exact zo) | have hn := nw2 hb hall (by exact zo) | have hn := nw1 hb hall (by exact zo) | have hn := nw0 hb hall (by exact zo)); obtain ⟨hc, hf, hn, hc0⟩ := hn; replace hall := hn; clear hn; have hz := hb.size; (try simp only [World.size_alloc, World.size_setCell, World.size_drew] at hz); have hx := hall; (try simp only [allLt, and_true] at hx); obtain ⟨w1, rfl⟩ : ∃ x, x = w2 := ⟨_, rfl⟩))
                  go_roundw
                  case rel => exact RL.out _ (by exact bel)
                  case measure => simp [intOf]; omega
                · have e1 := hk1 hKS; have e2 := hk2 hMS; omega
              · have hkI : ¬ (k : Int) < 16 := by omega
                clear hk hlt
                replace x0 : wr.cell? ⟨gx, 0, none⟩ = some (.int .i64 kp) := (HL.out.cell (p := ⟨gx, 0, none⟩) (by (try dsimp only); omega)).trans x0
                replace x1 : wr.cell? ⟨gx, 1, none⟩ = some (.int .i64 mv) := (HL.out.cell (p := ⟨gx, 1, none⟩) (by (try dsimp only); omega)).trans x1
                replace x2 : wr.cell? ⟨gx, 2, none⟩ = some (.slice xo cs.length xcap) := (HL.out.cell (p := ⟨gx, 2, none⟩) (by (try dsimp only); omega)).trans x2
                replace k_0 : wr.cell? ⟨gk, 0, none⟩ = some (.int .i64 a.p) := (HL.out.cell (p := ⟨gk, 0, none⟩) (by (try dsimp only); omega)).trans k_0
                replace k_1 : wr.cell? ⟨gk, 1, none⟩ = some (.int .i64 a.c) := (HL.out.cell (p := ⟨gk, 1, none⟩) (by (try dsimp only); omega)).trans k_1
                replace k_2 : wr.cell? ⟨gk, 2, none⟩ = some (.int .i64 a.b) := (HL.out.cell (p := ⟨gk, 2, none⟩) (by (try dsimp only); omega)).trans k_2
                replace m_0 : wr.cell? ⟨gm, 0, none⟩ = some (.int .i64 b.p) := (HL.out.cell (p := ⟨gm, 0, none⟩) (by (try dsimp only); omega)).trans m_0
                replace m_1 : wr.cell? ⟨gm, 1, none⟩ = some (.int .i64 b.c) := (HL.out.cell (p := ⟨gm, 1, none⟩) (by (try dsimp only); omega)).trans m_1
                replace m_2 : wr.cell? ⟨gm, 2, none⟩ = some (.int .i64 b.b) := (HL.out.cell (p := ⟨gm, 2, none⟩) (by (try dsimp only); omega)).trans m_2
                replace HOX := Lib.hid (HOX.out.below HL.out)
                replace HB := Lib.hid (HB.out.trans (HL.out.mono HB.out.size))
                have hls := HL.out.size
                replace hqx : gx < wr.heap.size := by omega
                replace hqk : gk < wr.heap.size := by omega
                replace hqm : gm < wr.heap.size := by omega
                clear HL hls d0 d1 d2 f0 f1 f2 HRD PO2 hq0 hq1
                obtain ⟨w1, rfl⟩ : ∃ x, x = wr := ⟨_, rfl⟩
                have hmv : cs = spanCells b.p b.c b.b := by (have h := PF.out.mvc; rw [if_neg hkb] at h; exact h)
                have hkl : cs.length ≤ (spanCells a.p a.c a.b).length := by (have h := PF.out.kl; rw [if_neg hkb] at h; exact h)
                have hklI : (cs.length : Int) ≤ ((spanCells a.p a.c a.b).length : Nat) := by omega
                have hcl := PF.out.len
                have hps : planSaves kp mv cs = 16 - (cs.length : Int) := by unfold planSaves; rw [PF.out.ok]; rfl
                have HMV := Lib.hid hmv; clear hmv
                go_wp2_with fail
                go_region_held3 (fun w' => w'.cell? ⟨gx, 0, none⟩ = some (.int .i64 kp) ∧ w'.cell? ⟨gx, 1, none⟩ = some (.int .i64 mv) ∧ w'.cell? ⟨gx, 2, none⟩ = some (.slice xo cs.length xcap) ∧ w'.cell? ⟨gk, 0, none⟩ = some (.int .i64 a.p) ∧ w'.cell? ⟨gk, 1, none⟩ = some (.int .i64 a.c) ∧ w'.cell? ⟨gk, 2, none⟩ = some (.int .i64 a.b) ∧ w'.cell? ⟨gm, 0, none⟩ = some (.int .i64 b.p) ∧ w'.cell? ⟨gm, 1, none⟩ = some (.int .i64 b.c) ∧ w'.cell? ⟨gm, 2, none⟩ = some (.int .i64 b.b)) (first | (refine ⟨?_, ?_, ?_, ?_, ?_, ?_, ?_, ?_, ?_⟩ <;> (go_simp; done)) | go_keep) (first | (go_at_call_of 55 (Value.agg #[.int .i64 a.p, .int .i64 a.c, .int .i64 a.b]); (refine (s_SpanCells a.p a.c a.b _).mono ?_; intro e w2 hnew; obtain ⟨kao, kcap, rfl, hownN, hb⟩ := hnew.open; clear hnew hownN; have HB1 := Lib.hid hb; have kwa_gx_0 : w2.cell? ⟨gx, 0, none⟩ = some (.int .i64 kp) := kc hb; have kwa_gx_1 : w2.cell? ⟨gx, 1, none⟩ = some (.int .i64 mv) := kc hb; have kwa_gx_2 : w2.cell? ⟨gx, 2, none⟩ = some (.slice xo cs.length xcap) := kc hb; have kwa_gk_0 : w2.cell? ⟨gk, 0, none⟩ = some (.int .i64 a.p) := kc hb; have kwa_gk_1 : w2.cell? ⟨gk, 1, none⟩ = some (.int .i64 a.c) := kc hb; have kwa_gk_2 : w2.cell? ⟨gk, 2, none⟩ = some (.int .i64 a.b) := kc hb; have kwa_gm_0 : w2.cell? ⟨gm, 0, none⟩ = some (.int .i64 b.p) := kc hb; have kwa_gm_1 : w2.cell? ⟨gm, 1, none⟩ = some (.int .i64 b.c) := kc hb; have kwa_gm_2 : w2.cell? ⟨gm, 2, none⟩ = some (.int .i64 b.b) := kc hb; have xwa_gx : gx < w2.heap.size := xc hb; have xwa_gk : gk < w2.heap.size := xc hb; have xwa_gm : gm < w2.heap.size := xc hb; have hzwa := hb.size; (try simp only [World.size_alloc, World.size_setCell, World.size_drew] at hzwa); obtain ⟨wa, rfl⟩ : ∃ x, x = w2 := ⟨_, rfl⟩)) | (go_at_call_of 55 (Value.agg #[.int .i64 b.p, .int .i64 b.c, .int .i64 b.b]); (refine (s_SpanCells b.p b.c b.b _).mono ?_; intro e w2 hnew; obtain ⟨mao, mcap, rfl, hownN, hb⟩ := hnew.open; clear hnew; have HON := Lib.hid (hownN.at lenInt); clear hownN; have HB2 := Lib.hid hb; have kwb_gx_0 : w2.cell? ⟨gx, 0, none⟩ = some (.int .i64 kp) := kc hb; have kwb_gx_1 : w2.cell? ⟨gx, 1, none⟩ = some (.int .i64 mv) := kc hb; have kwb_gx_2 : w2.cell? ⟨gx, 2, none⟩ = some (.slice xo cs.length xcap) := kc hb; have kwb_gk_0 : w2.cell? ⟨gk, 0, none⟩ = some (.int .i64 a.p) := kc hb; have kwb_gk_1 : w2.cell? ⟨gk, 1, none⟩ = some (.int .i64 a.c) := kc hb; have kwb_gk_2 : w2.cell? ⟨gk, 2, none⟩ = some (.int .i64 a.b) := kc hb; have kwb_gm_0 : w2.cell? ⟨gm, 0, none⟩ = some (.int .i64 b.p) := kc hb; have kwb_gm_1 : w2.cell? ⟨gm, 1, none⟩ = some (.int .i64 b.c) := kc hb; have kwb_gm_2 : w2.cell? ⟨gm, 2, none⟩ = some (.int .i64 b.b) := kc hb; have xwb_gx : gx < w2.heap.size := xc hb; have xwb_gk : gk < w2.heap.size := xc hb; have xwb_gm : gm < w2.heap.size := xc hb; have hzwb := hb.size; (try simp only [World.size_alloc, World.size_setCell, World.size_drew] at hzwb); obtain ⟨wb, rfl⟩ : ∃ x, x = w2 := ⟨_, rfl⟩)) | (go_at_call 56; (refine (l_sameInts _ _ cs _ (HOX.out.below (by (have hB1 := HB1.out; have hB2 := HB2.out; exact bel))) (by (rw [HMV.out] ; exact HON.out.below (by exact bel)))).mono ?_; rintro e w2 ⟨rfl, hb⟩; have HB3 := Lib.hid hb; have kwcc_gx_0 : w2.cell? ⟨gx, 0, none⟩ = some (.int .i64 kp) := kc hb; have kwcc_gx_1 : w2.cell? ⟨gx, 1, none⟩ = some (.int .i64 mv) := kc hb; have kwcc_gx_2 : w2.cell? ⟨gx, 2, none⟩ = some (.slice xo cs.length xcap) := kc hb; have kwcc_gk_0 : w2.cell? ⟨gk, 0, none⟩ = some (.int .i64 a.p) := kc hb; have kwcc_gk_1 : w2.cell? ⟨gk, 1, none⟩ = some (.int .i64 a.c) := kc hb; have kwcc_gk_2 : w2.cell? ⟨gk, 2, none⟩ = some (.int .i64 a.b) := kc hb; have kwcc_gm_0 : w2.cell? ⟨gm, 0, none⟩ = some (.int .i64 b.p) := kc hb; have kwcc_gm_1 : w2.cell? ⟨gm, 1, none⟩ = some (.int .i64 b.c) := kc hb; have kwcc_gm_2 : w2.cell? ⟨gm, 2, none⟩ = some (.int .i64 b.b) := kc hb; have xwcc_gx : gx < w2.heap.size := xc hb; have xwcc_gk : gk < w2.heap.size := xc hb; have xwcc_gm : gm < w2.heap.size := xc hb; have hzwcc := hb.size; (try simp only [World.size_alloc, World.size_setCell, World.size_drew] at hzwcc); obtain ⟨wcc, rfl⟩ : ∃ x, x = w2 := ⟨_, rfl⟩)) | (go_at_call 51; (refine (i_PlanSaves kp mv _ cs _ (HOX.out.below (by (have hB1 := HB1.out; have hB2 := HB2.out; have hB3 := HB3.out; exact bel)))).mono ?_; rintro e w2 ⟨rfl, hb⟩; rw [hps]; have HB4 := Lib.hid hb; have kwd_gx_0 : w2.cell? ⟨gx, 0, none⟩ = some (.int .i64 kp) := kc hb; have kwd_gx_1 : w2.cell? ⟨gx, 1, none⟩ = some (.int .i64 mv) := kc hb; have kwd_gx_2 : w2.cell? ⟨gx, 2, none⟩ = some (.slice xo cs.length xcap) := kc hb; have kwd_gk_0 : w2.cell? ⟨gk, 0, none⟩ = some (.int .i64 a.p) := kc hb; have kwd_gk_1 : w2.cell? ⟨gk, 1, none⟩ = some (.int .i64 a.c) := kc hb; have kwd_gk_2 : w2.cell? ⟨gk, 2, none⟩ = some (.int .i64 a.b) := kc hb; have kwd_gm_0 : w2.cell? ⟨gm, 0, none⟩ = some (.int .i64 b.p) := kc hb; have kwd_gm_1 : w2.cell? ⟨gm, 1, none⟩ = some (.int .i64 b.c) := kc hb; have kwd_gm_2 : w2.cell? ⟨gm, 2, none⟩ = some (.int .i64 b.b) := kc hb; have xwd_gx : gx < w2.heap.size := xc hb; have xwd_gk : gk < w2.heap.size := xc hb; have xwd_gm : gm < w2.heap.size := xc hb; have hzwd := hb.size; (try simp only [World.size_alloc, World.size_setCell, World.size_drew] at hzwd); obtain ⟨wd, rfl⟩ : ∃ x, x = w2 := ⟨_, rfl⟩)))
                have hwr : IntKind.i64.wrap (16 - (cs.length : Int)) = 16 - (cs.length : Int) := by rw [IntKind.wrap_i64]; omega
                all_goals go_wp2_with fail
                all_goals go_ret
                all_goals (have hB0 := HB.out; have hBs := hB0.size; have hB1 := HB1.out; have hB2 := HB2.out; have hB3 := HB3.out; have hB4 := HB4.out; exact ⟨by simp [hwr], by exact bel⟩)
namespace fnPlans
set_option maxRecDepth 100000 in
theorem contract (H : Type) (enc : TypeId × Value → H) (W : World) (base : Nat) (args : Array Value) (ds gs : List (DataW H)) (before : List MemPlace)
    (hval : ∀ (j : Nat) t v, Try.f11.params[j]? = some t → args[j]? = some v → Value.okWide Try.prog W .any base t v)
    (hW : DataW.Whole enc Try.prog Try.f11.params.toList Rows.fnPlansSpec.vars false W args.toList ds gs before) :
    Calls Try.prog 11 args W fun e W' => ∃ v, e = .returned v ∧ Rows.fnPlansSpec.post enc Try.prog Try.f11 false true false false W args v W' := by
  have hW' := hW
  obtain ⟨p, q, hA0, hV, rfl, hfz, hnd⟩ := hW
  have hA : DataW.TrodAll enc Try.prog W 0 (fun _ => true) true Try.f11.params.toList args.toList ds p := hA0
  rw [Try.params11] at hA hval
  obtain ⟨v0, vs0, d0, ds0, p0, q0, hargs, rfl, rfl, h0, r0⟩ := trodAll_cons hA
  obtain ⟨rfl, rfl, rfl⟩ := trodAll_nil r0
  obtain rfl : args = #[v0] := by cases args; simp_all
  obtain ⟨rfl, rfl⟩ := trodVars_none hV
  obtain ⟨n, hv⟩ := bytes_open Try.underlying22 Try.underlying5 (by kernel_rfl) (hval 0 22 v0 rfl rfl) h0
  clear hA0
  refine (w_FnPlans v0 n W hv).mono fun e W' ⟨he, hg⟩ => ?_
  subst he
  exact ⟨_, rfl, law_post (tb := 4) laidOut (by kernel_rfl) rfl rfl Try.underlying4 hW' rfl rfl rfl hg⟩
set_option maxRecDepth 100000 in
theorem lifted (os : Os) (started : os.Started) (H : Type) (enc : TypeId × Value → H) :
    ReturnsInHanded {} Try.checked os 11 .any (Rows.fnPlansSpec.pre6 enc Try.prog Try.f11 Rows.fnPlansRow.domain false) (Rows.fnPlansSpec.post enc Try.prog Try.f11 false true false false) := by
  refine returnsInHanded_of_change (C := Try.checked) own started (by kernel_rfl) Try.func11
    (ChangeSpec.witness6 (enc := enc) (C := Try.checked) false ⟨#[], #[.slice none 0 0], []⟩ 8 (by kernel_rfl) (by kernel_rfl) (by kernel_rfl) (by kernel_rfl)) ?_
  intro W base args ds gs before hval hW _ _
  exact contract H enc W base args ds gs before hval hW
/-- The statement. -/
theorem proved : Rows.FnPlansSaid :=
  OpenClaim.holds_of_wide 11 Try.f11 rfl rfl rfl rfl rfl rfl rfl ⟨rfl, rfl, rfl, rfl, rfl⟩ rfl rfl rfl rfl rfl (by kernel_rfl) Try.func11 (by kernel_rfl)
    (of_decide_eq_true (by kernel_rfl)) (by unfold Func.isWrapper; first | (rw [if_pos (by decide +kernel)]; kernel_rfl) | (rw [if_neg (by decide +kernel)]; exact ⟨rfl, rfl⟩))
    (fun os started H enc _ => lifted os started H enc)
end fnPlans

end Go.Proofs.Ytkdafincnmkjnaa
