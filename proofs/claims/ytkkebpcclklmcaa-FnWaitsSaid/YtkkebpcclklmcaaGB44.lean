/-
  Texts put together: PairDB, Same.
-/
import Derived.Test.YtkkebpcclklmcaaGB43
import Derived.Test.YtkkebpcclklmcaaGB5
import Derived.Test.YtkkebpcclklmcaaGB6
import Derived.Laws.StructEq
/-
  A kernel with two pages and a plan, out of the bytes of a draw.
-/
set_option linter.unusedVariables false
set_option linter.unusedSimpArgs false
namespace Go.Proofs.Ytkkebpcclklmcaa
open Go.RowKit
def DrawnPairB (w : World) (e : Ending) (w' : World) : Prop := ∃ (y : KV) (K : Ker) (kp mv : Nat) (v : Value) (cs : List Int), e = .returned (.tuple #[y.val K.calls, .agg #[.int .i64 (kp : Int), .int .i64 (mv : Int), v]]) ∧ DInv K kp mv cs ∧ K.calls ≤ 2 ∧ kp < 4 ∧ mv < 4 ∧ KOwn w.heap.size w' y K ∧ OwnI w.heap.size w' v cs ∧ (∀ b ∈ blocks [v], b ∉ blocks y.all) ∧ Below w.heap.size w w'
set_option maxRecDepth 20000 in
set_option maxHeartbeats 1600000 in
theorem s_DrawPair (v : Value) (n : Nat) (w : World) (hv : BytesAt w.heap.size w v n) : Calls Try.prog 9 #[v] w (DrawnPairB w) := by
  have HV := Lib.hid hv; clear hv
  (have hall := all_nil w; go_enter Try.func9, Try.ntmps9)
  go_wp2_with fail
  have up0 : Below w.heap.size w ((w.alloc (.cells #[.slice none 0 0, .slice none 0 0, .slice none 0 0, .int .i64 0, .slice none 0 0] 35)).alloc (.cells #[.int .i64 0, .int .i64 0, .slice none 0 0] 37)) := ((Below.refl _ _).alloc (Nat.le_refl _) _).alloc (by simp only [World.size_alloc]; omega) _
  have b0 : BoxAt ((w.alloc (.cells #[.slice none 0 0, .slice none 0 0, .slice none 0 0, .int .i64 0, .slice none 0 0] 35)).alloc (.cells #[.int .i64 0, .int .i64 0, .slice none 0 0] 37)) w.heap.size [.slice none 0 0, .slice none 0 0, .slice none 0 0, .int .i64 0, .slice none 0 0] := (BoxAt.snoc (BoxAt.snoc (BoxAt.snoc (BoxAt.snoc (BoxAt.snoc (BoxAt.nil (w := ((w.alloc (.cells #[.slice none 0 0, .slice none 0 0, .slice none 0 0, .int .i64 0, .slice none 0 0] 35)).alloc (.cells #[.int .i64 0, .int .i64 0, .slice none 0 0] 37))) (g := w.heap.size) (by go_simp)) (v := .slice none 0 0) rfl (by go_simp) (by go_simp)) (v := .slice none 0 0) rfl (by go_simp) (by go_simp)) (v := .slice none 0 0) rfl (by go_simp) (by go_simp)) (v := .int .i64 0) rfl (by go_simp) (by go_simp)) (v := .slice none 0 0) rfl (by go_simp) (by go_simp))
  have b1 : BoxAt ((w.alloc (.cells #[.slice none 0 0, .slice none 0 0, .slice none 0 0, .int .i64 0, .slice none 0 0] 35)).alloc (.cells #[.int .i64 0, .int .i64 0, .slice none 0 0] 37)) (w.heap.size + 1) [.int .i64 0, .int .i64 0, .slice none 0 0] := (BoxAt.snoc (BoxAt.snoc (BoxAt.snoc (BoxAt.nil (w := ((w.alloc (.cells #[.slice none 0 0, .slice none 0 0, .slice none 0 0, .int .i64 0, .slice none 0 0] 35)).alloc (.cells #[.int .i64 0, .int .i64 0, .slice none 0 0] 37))) (g := w.heap.size + 1) (by go_simp)) (v := .int .i64 0) rfl (by go_simp) (by go_simp)) (v := .int .i64 0) rfl (by go_simp) (by go_simp)) (v := .slice none 0 0) rfl (by go_simp) (by go_simp))
  refine (s_l01New v n _ (BytesAt.grewN HV.out up0)).mono ?_; rintro e w1 ⟨g, rfl, hcur, hb1⟩
  have hg1 := hcur.1
  have hz1 := hb1.size
  simp only [World.size_alloc] at hg1 hz1
  have HB0 := Lib.hid (b0.below hb1); have HB1 := Lib.hid (b1.below hb1); have HW1 := Lib.hid (up0.trans (hb1.mono (by simp only [World.size_alloc]; omega)))
  clear b0 b1 up0 hb1
  go_wp2_with fail
  refine (s_l14Pair _ g _ hcur).mono ?_; rintro e w2 ⟨y, K, kp, mv, v2, cs, rfl, hd, hcl, hk4, hm4, hko, hvo, hap, -, hgr⟩
  obtain ⟨zco, zcc, zuo, zuc, zvs, zeo, zec, zro, zrc, rfl⟩ := KOwn.shapes hko
  obtain ⟨vo, vc, rfl, -, -, -⟩ := Own.shape hvo
  have ht : Touch [g] w1 w2 := grown_touch hgr fun b hb => by cases hb; simp
  have r1 := HB0.out.touch ht (by simp; omega)
  have r2 := HB1.out.touch ht (by simp; omega)
  have a0 := (r1.cells 0 _ rfl).1; have d0 := (r1.cells 0 _ rfl).2; have a1 := (r1.cells 1 _ rfl).1; have d1 := (r1.cells 1 _ rfl).2; have a2 := (r1.cells 2 _ rfl).1; have d2 := (r1.cells 2 _ rfl).2; have a3 := (r1.cells 3 _ rfl).1; have d3 := (r1.cells 3 _ rfl).2; have a4 := (r1.cells 4 _ rfl).1; have d4 := (r1.cells 4 _ rfl).2
  have u0_ := (r2.cells 0 _ rfl).1; have v0_ := (r2.cells 0 _ rfl).2; have u1_ := (r2.cells 1 _ rfl).1; have v1_ := (r2.cells 1 _ rfl).2; have u2_ := (r2.cells 2 _ rfl).1; have v2_ := (r2.cells 2 _ rfl).2
  have xr1 := r1.lt; have xr2 := r2.lt
  have HD := Lib.hid hd; have HKO := Lib.hid hko; have HVO := Lib.hid hvo; have HAP := Lib.hid hap
  have HW2 := Lib.hid (HW1.out.trans (below_of_grown hgr (by omega) (by omega)))
  have hz2 := hgr.size
  clear r1 r2 ht hd hko hvo hap hgr hcur
  simp only [KV.val]
  go_wp2_with fail
  all_goals (refine bodyPost_ret (v := .tuple #[.agg #[.slice zco zvs.length zcc, .slice zuo K.m.f.used.length zuc, .slice zeo K.m.ents.length zec, .int .i64 K.calls, .slice zro K.refuse.length zrc], .agg #[.int .i64 (kp : Int), .int .i64 (mv : Int), .slice vo cs.length vc]]) (by simp [results, Try.results9, go_sem, a0, a1, a2, a3, a4, d0, d1, d2, d3, d4, u0_, u1_, u2_, v0_, v1_, v2_, xr1, xr2]) rfl ?_)
  all_goals (refine ⟨⟨⟨⟨.slice zco zvs.length zcc, .slice zuo K.m.f.used.length zuc, zvs⟩, .slice zeo K.m.ents.length zec⟩, .slice zro K.refuse.length zrc⟩, K, kp, mv, _, cs, rfl, HD.out, hcl, hk4, hm4, (HKO.out.touch (S := [w.heap.size, w.heap.size + 1]) (by repeat (first | (with_reducible exact Touch.refl _ _) | (with_reducible refine touch_setC ?_ (by simp)) | (with_reducible refine touch_drw ?_))) (fun b hb hm => by have h1 := (HKO.out.lts b hb).1; simp only [List.mem_cons, List.not_mem_nil, or_false] at hm; omega)).mono (by omega), (Own.touch (S := [w.heap.size, w.heap.size + 1]) HVO.out (by repeat (first | (with_reducible exact Touch.refl _ _) | (with_reducible refine touch_setC ?_ (by simp)) | (with_reducible refine touch_drw ?_))) (fun b hb hm => by have h1 := (HVO.out.lt b hb).1; simp only [List.mem_cons, List.not_mem_nil, or_false] at hm; omega)).mono (by omega), HAP.out, HW2.out.trans ((show Touch [w.heap.size, w.heap.size + 1] w2 _ from (by repeat (first | (with_reducible exact Touch.refl _ _) | (with_reducible refine touch_setC ?_ (by simp)) | (with_reducible refine touch_drw ?_)))).toBelow (by intro s hs; simp only [List.mem_cons, List.not_mem_nil, or_false] at hs; omega) (by omega))⟩)

end Go.Proofs.Ytkkebpcclklmcaa
/-
  The laws' functions 'same..': slices, frames, machines that hold the same.
-/
set_option linter.unusedVariables false
set_option linter.unusedSimpArgs false
namespace Go.Proofs.Ytkkebpcclklmcaa
open Go.RowKit
theorem l_sameInts (va vb : Value) (xs : List Int) (w : World) (ha : IntsAt w va xs) (hb : IntsAt w vb xs) : Calls Try.prog 22 #[va, vb] w fun e w' => e = .returned (.bool true) ∧ Below w.heap.size w w' := by
  obtain ⟨ao, ca, rfl, _, hm, hra⟩ := IntsAt.open ha
  obtain ⟨bo, cb, rfl, _, _, hrb⟩ := IntsAt.open hb
  have hle : xs.length ≤ 9223372036854775807 := by unfold maxLen at hm; omega
  clear ha hb hm
  have HA := Lib.hid hra; have HB := Lib.hid hrb; clear hra hrb
  (have hall := all_nil w; go_enter Try.func22, Try.ntmps22)
  go_wp2_with (fail)
  go_loopw [5] (fun i wr => ∃ j : Nat, j ≤ xs.length ∧ i = .int .i64 j ∧ Below w.heap.size w wr) (fun i _ => xs.length - (intOf i).toNat)
  case atStart => exact ⟨0, Nat.zero_le _, rfl, Below.refl _ _⟩
  case round =>
    obtain ⟨j, hj, rfl, hbel⟩ := hrel
    have HL := Lib.hid hbel; have hsz := hbel.size; clear hbel
    by_cases hlt : j < xs.length
    · have hlt' : (j : Int) < xs.length := by omega
      obtain ⟨x, hx⟩ := getx hlt
      obtain ⟨ga, oa, rfl, hga, c1⟩ := HA.out j x hx
      obtain ⟨gb, ob, rfl, hgb, c2⟩ := HB.out j x hx
      replace c1 := (HL.out.cell (p := ⟨ga, oa + j, none⟩) hga).trans c1
      replace c2 := (HL.out.cell (p := ⟨gb, ob + j, none⟩) hgb).trans c2
      clear hx
      (obtain ⟨w1, rfl⟩ : ∃ x, x = wr := ⟨_, rfl⟩; have hall : allLt [ga, gb] w1.heap.size := ⟨by omega, by omega, trivial⟩; have hx := hall; (try simp only [allLt, and_true] at hx))
      go_wp2_with ((with_reducible refine wp_region_grew2 (by kernel_rfl) (by kernel_rfl) ?_; intro w2 hb; ((have hn := nw0 hb hall (by exact zo))); obtain ⟨hc, hf, hn, hc0⟩ := hn; replace hall := hn; clear hn; have hz := hb.size; (try simp only [World.size_alloc, World.size_setCell, World.size_drew] at hz); have hx := hall; (try simp only [allLt, and_true] at hx); obtain ⟨w1, rfl⟩ : ∃ x, x = w2 := ⟨_, rfl⟩; (repeat (go_big_quiet_step (fail))); refine wpQuiet_nil ?_; intro w2 hw'; have hb := grew_below hw'; clear hw'; ((have hn := nw0 hb hall (by exact zo))); obtain ⟨hc, hf, hn, hc0⟩ := hn; replace hall := hn; clear hn; have hz := hb.size; (try simp only [World.size_alloc, World.size_setCell, World.size_drew] at hz); have hx := hall; (try simp only [allLt, and_true] at hx); obtain ⟨w1, rfl⟩ : ∃ x, x = w2 := ⟨_, rfl⟩))
      go_roundw
      case rel =>
        have hL := HL.out
        exact ⟨j + 1, by omega, by go_num, by exact bel⟩
      case measure => simp [intOf]; omega
    · have hlt' : ¬ (j : Int) < xs.length := by omega
      go_wp2_with (fail)
      go_ret
      exact ⟨rfl, HL.out⟩

theorem l_sameBools (va vb : Value) (xs : List Bool) (w : World) (ha : BoolsAt w va xs) (hb : BoolsAt w vb xs) : Calls Try.prog 79 #[va, vb] w fun e w' => e = .returned (.bool true) ∧ Below w.heap.size w w' := by
  obtain ⟨ao, ca, rfl, _, hm, hra⟩ := BoolsAt.open ha
  obtain ⟨bo, cb, rfl, _, _, hrb⟩ := BoolsAt.open hb
  have hle : xs.length ≤ 9223372036854775807 := by unfold maxLen at hm; omega
  clear ha hb hm
  have HA := Lib.hid hra; have HB := Lib.hid hrb; clear hra hrb
  (have hall := all_nil w; go_enter Try.func79, Try.ntmps79)
  go_wp2_with (fail)
  go_loopw [5] (fun i wr => ∃ j : Nat, j ≤ xs.length ∧ i = .int .i64 j ∧ Below w.heap.size w wr) (fun i _ => xs.length - (intOf i).toNat)
  case atStart => exact ⟨0, Nat.zero_le _, rfl, Below.refl _ _⟩
  case round =>
    obtain ⟨j, hj, rfl, hbel⟩ := hrel
    have HL := Lib.hid hbel; have hsz := hbel.size; clear hbel
    by_cases hlt : j < xs.length
    · have hlt' : (j : Int) < xs.length := by omega
      obtain ⟨x, hx⟩ := getx hlt
      obtain ⟨ga, oa, rfl, hga, c1⟩ := HA.out j x hx
      obtain ⟨gb, ob, rfl, hgb, c2⟩ := HB.out j x hx
      replace c1 := (HL.out.cell (p := ⟨ga, oa + j, none⟩) hga).trans c1
      replace c2 := (HL.out.cell (p := ⟨gb, ob + j, none⟩) hgb).trans c2
      clear hx
      (obtain ⟨w1, rfl⟩ : ∃ x, x = wr := ⟨_, rfl⟩; have hall : allLt [ga, gb] w1.heap.size := ⟨by omega, by omega, trivial⟩; have hx := hall; (try simp only [allLt, and_true] at hx))
      go_wp2_with ((with_reducible refine wp_region_grew2 (by kernel_rfl) (by kernel_rfl) ?_; intro w2 hb; ((have hn := nw0 hb hall (by exact zo))); obtain ⟨hc, hf, hn, hc0⟩ := hn; replace hall := hn; clear hn; have hz := hb.size; (try simp only [World.size_alloc, World.size_setCell, World.size_drew] at hz); have hx := hall; (try simp only [allLt, and_true] at hx); obtain ⟨w1, rfl⟩ : ∃ x, x = w2 := ⟨_, rfl⟩; (repeat (go_big_quiet_step (fail))); refine wpQuiet_nil ?_; intro w2 hw'; have hb := grew_below hw'; clear hw'; ((have hn := nw0 hb hall (by exact zo))); obtain ⟨hc, hf, hn, hc0⟩ := hn; replace hall := hn; clear hn; have hz := hb.size; (try simp only [World.size_alloc, World.size_setCell, World.size_drew] at hz); have hx := hall; (try simp only [allLt, and_true] at hx); obtain ⟨w1, rfl⟩ : ∃ x, x = w2 := ⟨_, rfl⟩))
      go_roundw
      case rel =>
        have hL := HL.out
        exact ⟨j + 1, by omega, by go_num, by exact bel⟩
      case measure => simp [intOf]; omega
    · have hlt' : ¬ (j : Int) < xs.length := by omega
      go_wp2_with (fail)
      go_ret
      exact ⟨rfl, HL.out⟩

theorem neqEnt (w : World) (a b c d : Int) : (binOp .neq 52 (.agg #[.int .i64 a, .int .i64 b]) (.agg #[.int .i64 c, .int .i64 d])).run Try.prog w = .ok (.bool (!((a == c) && (b == d)))) w := by
  rw [run_neq_struct, run_equalIn_agg (P := Try.prog) w 9999 _ _ _ (by kernel_rfl) (by kernel_rfl)]
  by_cases h1 : a = c
  · subst h1
    by_cases h2 : b = d
    · subst h2
      simp [go_sem]
    · simp [go_sem, h2]
  · simp [go_sem, h1]
attribute [go_sem ↓] neqEnt
theorem l_sameEntries (va vb : Value) (xs : List Ent) (w : World) (ha : EntAt w va xs) (hb : EntAt w vb xs) : Calls Try.prog 49 #[va, vb] w fun e w' => e = .returned (.bool true) ∧ Below w.heap.size w w' := by
  obtain ⟨ao, ca, rfl, _, hm, hra⟩ := EntAt.open ha
  obtain ⟨bo, cb, rfl, _, _, hrb⟩ := EntAt.open hb
  have hle : xs.length ≤ 9223372036854775807 := by unfold maxLen at hm; omega
  clear ha hb hm
  have HA := Lib.hid hra; have HB := Lib.hid hrb; clear hra hrb
  (have hall := all_nil w; go_enter Try.func49, Try.ntmps49)
  go_wp2_with (fail)
  go_loopw [5] (fun i wr => ∃ j : Nat, j ≤ xs.length ∧ i = .int .i64 j ∧ Below w.heap.size w wr) (fun i _ => xs.length - (intOf i).toNat)
  case atStart => exact ⟨0, Nat.zero_le _, rfl, Below.refl _ _⟩
  case round =>
    obtain ⟨j, hj, rfl, hbel⟩ := hrel
    have HL := Lib.hid hbel; have hsz := hbel.size; clear hbel
    by_cases hlt : j < xs.length
    · have hlt' : (j : Int) < xs.length := by omega
      obtain ⟨⟨x, y⟩, hx⟩ := getx hlt
      obtain ⟨ga, oa, rfl, hga, c1, e1⟩ := HA.out j _ hx
      obtain ⟨gb, ob, rfl, hgb, c2, e2⟩ := HB.out j _ hx
      dsimp only at c1 c2 e1 e2
      replace e1 := (HL.out.cell (p := ⟨ga, oa + j * 2 + 1, none⟩) hga).trans e1
      replace e2 := (HL.out.cell (p := ⟨gb, ob + j * 2 + 1, none⟩) hgb).trans e2
      have hxx : (x == x) = true := beq_self_eq_true x
      have hyy : (y == y) = true := beq_self_eq_true y
      replace c1 := (HL.out.cell (p := ⟨ga, oa + j * 2, none⟩) hga).trans c1
      replace c2 := (HL.out.cell (p := ⟨gb, ob + j * 2, none⟩) hgb).trans c2
      clear hx
      (obtain ⟨w1, rfl⟩ : ∃ x, x = wr := ⟨_, rfl⟩; have hall : allLt [ga, gb] w1.heap.size := ⟨by omega, by omega, trivial⟩; have hx := hall; (try simp only [allLt, and_true] at hx))
      go_wp2_with ((with_reducible refine wp_region_grew2 (by kernel_rfl) (by kernel_rfl) ?_; intro w2 hb; ((have hn := nw0 hb hall (by exact zo))); obtain ⟨hc, hf, hn, hc0⟩ := hn; replace hall := hn; clear hn; have hz := hb.size; (try simp only [World.size_alloc, World.size_setCell, World.size_drew] at hz); have hx := hall; (try simp only [allLt, and_true] at hx); obtain ⟨w1, rfl⟩ : ∃ x, x = w2 := ⟨_, rfl⟩; (repeat (go_big_quiet_step (fail))); refine wpQuiet_nil ?_; intro w2 hw'; have hb := grew_below hw'; clear hw'; ((have hn := nw0 hb hall (by exact zo))); obtain ⟨hc, hf, hn, hc0⟩ := hn; replace hall := hn; clear hn; have hz := hb.size; (try simp only [World.size_alloc, World.size_setCell, World.size_drew] at hz); have hx := hall; (try simp only [allLt, and_true] at hx); obtain ⟨w1, rfl⟩ : ∃ x, x = w2 := ⟨_, rfl⟩))
      go_roundw
      case rel =>
        have hL := HL.out
        exact ⟨j + 1, by omega, by go_num, by exact bel⟩
      case measure => simp [intOf]; omega
    · have hlt' : ¬ (j : Int) < xs.length := by omega
      go_wp2_with (fail)
      go_ret
      exact ⟨rfl, HL.out⟩

set_option maxHeartbeats 1600000 in
theorem l_sameLists (c c' : Value) (vs us : List Value) (rows : List (List Int)) (w : World) (ha : RowsAt fInt w c vs rows) (hb : RowsAt fInt w c' us rows) : Calls Try.prog 78 #[c, c'] w fun e w' => e = .returned (.bool true) ∧ Below w.heap.size w w' := by
  have ha' := ha; have hb' := hb
  obtain ⟨ao, ca, rfl, h1, h2⟩ := ha'.shape
  obtain ⟨bo, cb, rfl, _, _⟩ := hb'.shape
  have HA := Lib.hid ha'; have HB := Lib.hid hb'
  have hm : rows.length ≤ 9223372036854775807 := by unfold maxLen at h2; omega
  clear ha hb ha' hb' h1 h2
  (have hall := all_nil w; go_enter Try.func78, Try.ntmps78)
  go_wp2_with (fail)
  go_loopw [5] (fun i wr => ∃ j : Nat, j ≤ rows.length ∧ i = .int .i64 j ∧ Below w.heap.size w wr) (fun i _ => rows.length - (intOf i).toNat)
  case atStart => exact ⟨0, Nat.zero_le _, rfl, Below.refl _ _⟩
  case round =>
    obtain ⟨j, hj, rfl, hbel⟩ := hrel
    have HL := Lib.hid hbel; have hsz := hbel.size
    by_cases hlt : j < rows.length
    · have hlt' : (j : Int) < rows.length := by omega
      obtain ⟨ga, oa, ra, rla, rca, r, cap, he, hga, hr, hrl, hvj, hc, hrm, hat⟩ := rowAt HA.out hlt
      simp only [Value.slice.injEq] at he
      obtain ⟨rfl, -, rfl⟩ := he
      obtain ⟨gb, ob, rb, rlb, rcb, r', cap', he, hgb, hr', hrl', huj, hd, hrm', hat'⟩ := rowAt HB.out hlt
      simp only [Value.slice.injEq] at he
      obtain ⟨rfl, -, rfl⟩ := he
      rw [hr] at hr'
      obtain rfl : r = r' := Option.some.inj hr'
      replace hc := (hbel.cell (p := ⟨ga, oa + j, none⟩) hga).trans hc
      replace hd := (hbel.cell (p := ⟨gb, ob + j, none⟩) hgb).trans hd
      have O1 := Lib.hid (SlAt.below hat hbel)
      have O2 := Lib.hid (SlAt.below hat' hbel)
      clear hr hrl hvj hat hr' hrl' huj hat' hbel
      (obtain ⟨w1, rfl⟩ : ∃ x, x = wr := ⟨_, rfl⟩; have hall : allLt [ga, gb] w1.heap.size := ⟨by omega, by omega, trivial⟩; have hx := hall; (try simp only [allLt, and_true] at hx))
      go_wp2_with (with_reducible refine wp_region_grew2 (by kernel_rfl) (by kernel_rfl) ?_; intro w2 hb; have hb0 := hb; ((have hn := nw0 hb hall (by exact zo))); obtain ⟨hc, hf, hn, hc0⟩ := hn; replace hall := hn; clear hn; have hz := hb.size; (try simp only [World.size_alloc, World.size_setCell, World.size_drew] at hz); have hx := hall; (try simp only [allLt, and_true] at hx); obtain ⟨w1, rfl⟩ : ∃ x, x = w2 := ⟨_, rfl⟩; replace O1 := O1.out.below hb0; replace O2 := O2.out.below hb0; clear hb0; (repeat (go_big_quiet_step ((go_at_call 22; exact calls_grew (l_sameInts _ _ r _ (SlAt.below O1 (Grew.below _)) (SlAt.below O2 (Grew.below _))))))); refine wpQuiet_nil ?_; intro w2 hw'; have hb := grew_below hw'; clear hw'; ((have hn := nw0 hb hall (by exact zo))); obtain ⟨hc, hf, hn, hc0⟩ := hn; replace hall := hn; clear hn; have hz := hb.size; (try simp only [World.size_alloc, World.size_setCell, World.size_drew] at hz); have hx := hall; (try simp only [allLt, and_true] at hx); obtain ⟨w1, rfl⟩ : ∃ x, x = w2 := ⟨_, rfl⟩)
      go_roundw
      case rel =>
        have hL := HL.out
        exact ⟨j + 1, by omega, by go_num, by exact bel⟩
      case measure => simp [intOf]; omega
    · have hlt' : ¬ (j : Int) < rows.length := by omega
      clear hbel
      go_wp2_with (fail)
      go_ret
      exact ⟨rfl, HL.out⟩
theorem l_sameFrames (x y : FV) (F : Frm) (w : World) (ha : FAt w x F) (hb : FAt w y F) : Calls Try.prog 48 #[x.val, y.val] w fun e w' => e = .returned (.bool true) ∧ Below w.heap.size w w' := by
  have HA := Lib.hid ha; have HB := Lib.hid hb
  simp only [FV.val]
  clear ha hb
  (have hall := all_nil w; go_enter Try.func48, Try.ntmps48)
  go_wp2_with (first | (go_at_call 78; (refine (l_sameLists _ _ x.vs y.vs F.cells _ (RowsAt.below HA.out.rows (by exact bel)) (RowsAt.below HB.out.rows (by exact bel))).mono ?_; rintro e w2 ⟨rfl, hb⟩; have HB1 := Lib.hid hb; obtain ⟨kwa_0_0, kwa_0_1⟩ := kp2 hb (w.heap.size) (x.c) (x.u); obtain ⟨kwa_1_0, kwa_1_1⟩ := kp2 hb (w.heap.size + 1) (y.c) (y.u); have xwa_0 : w.heap.size < w2.heap.size := xc hb; have xwa_1 : w.heap.size + 1 < w2.heap.size := xc hb; have hzwa := hb.size; (try simp only [World.size_alloc, World.size_setCell, World.size_drew] at hzwa); obtain ⟨wa, rfl⟩ : ∃ x, x = w2 := ⟨_, rfl⟩)) | (go_at_call 79; (refine (l_sameBools _ _ F.used _ (SlAt.below HA.out.used (by (have hB1 := HB1.out; exact bel))) (SlAt.below HB.out.used (by (have hB1 := HB1.out; exact bel)))).mono ?_; rintro e w2 ⟨rfl, hb⟩; have HB2 := Lib.hid hb; obtain ⟨kwb_0_0, kwb_0_1⟩ := kp2 hb (w.heap.size) (x.c) (x.u); obtain ⟨kwb_1_0, kwb_1_1⟩ := kp2 hb (w.heap.size + 1) (y.c) (y.u); have xwb_0 : w.heap.size < w2.heap.size := xc hb; have xwb_1 : w.heap.size + 1 < w2.heap.size := xc hb; have hzwb := hb.size; (try simp only [World.size_alloc, World.size_setCell, World.size_drew] at hzwb); obtain ⟨wb, rfl⟩ : ∃ x, x = w2 := ⟨_, rfl⟩)))
  go_ret
  have hB1 := HB1.out; have hB2 := HB2.out
  exact ⟨rfl, by exact bel⟩
theorem l_sameMachine (x y : MV) (M : Mac) (w : World) (ha : MAt w x M) (hb : MAt w y M) : Calls Try.prog 19 #[x.val, y.val] w fun e w' => e = .returned (.bool true) ∧ Below w.heap.size w w' := by
  have HA := Lib.hid ha; have HB := Lib.hid hb
  simp only [MV.val, FV.val]
  clear ha hb
  (have hall := all_nil w; go_enter Try.func19, Try.ntmps19)
  go_wp2_with (first | (go_at_call 48; (refine (l_sameFrames x.f y.f M.f _ (FAt.below HA.out.f (by exact bel)) (FAt.below HB.out.f (by exact bel))).mono ?_; rintro e w2 ⟨rfl, hb⟩; have HB1 := Lib.hid hb; obtain ⟨kwa_0_0, kwa_0_1, kwa_0_2⟩ := kp3 hb (w.heap.size) (x.f.c) (x.f.u) (x.e); obtain ⟨kwa_1_0, kwa_1_1, kwa_1_2⟩ := kp3 hb (w.heap.size + 1) (y.f.c) (y.f.u) (y.e); have xwa_0 : w.heap.size < w2.heap.size := xc hb; have xwa_1 : w.heap.size + 1 < w2.heap.size := xc hb; have hzwa := hb.size; (try simp only [World.size_alloc, World.size_setCell, World.size_drew] at hzwa); obtain ⟨wa, rfl⟩ : ∃ x, x = w2 := ⟨_, rfl⟩)) | (go_at_call 49; (refine (l_sameEntries _ _ M.ents _ (SlAt.below HA.out.ents (by (have hB1 := HB1.out; exact bel))) (SlAt.below HB.out.ents (by (have hB1 := HB1.out; exact bel)))).mono ?_; rintro e w2 ⟨rfl, hb⟩; have HB2 := Lib.hid hb; obtain ⟨kwb_0_0, kwb_0_1, kwb_0_2⟩ := kp3 hb (w.heap.size) (x.f.c) (x.f.u) (x.e); obtain ⟨kwb_1_0, kwb_1_1, kwb_1_2⟩ := kp3 hb (w.heap.size + 1) (y.f.c) (y.f.u) (y.e); have xwb_0 : w.heap.size < w2.heap.size := xc hb; have xwb_1 : w.heap.size + 1 < w2.heap.size := xc hb; have hzwb := hb.size; (try simp only [World.size_alloc, World.size_setCell, World.size_drew] at hzwb); obtain ⟨wb, rfl⟩ : ∃ x, x = w2 := ⟨_, rfl⟩)))
  go_ret
  have hB1 := HB1.out; have hB2 := HB2.out
  exact ⟨rfl, by exact bel⟩

end Go.Proofs.Ytkkebpcclklmcaa
