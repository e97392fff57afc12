/-
  Texts put together: WrsD, OrdD.
-/
import Derived.Test.YtkkebpcclklmcaaGB43
import Derived.Test.YtkkebpcclklmcaaGB37
import Derived.Test.YtkkebpcclklmcaaGB41
import Derived.Test.YtkkebpcclklmcaaGB32
/-
  Writers to live cells, as the reference draws them.
-/
set_option linter.unusedVariables false
set_option linter.unusedSimpArgs false
namespace Go.Proofs.Ytkkebpcclklmcaa
open Go.RowKit
theorem wr_wraps {p k : Nat} (hp : p < 4) (hk : k < 16) : wrap64 ((p : Int) * 16) = (p : Int) * 16 ∧ IntKind.i64.wrap ((p : Int) * 16) = (p : Int) * 16 ∧ wrap64 ((p : Int) * 16 + (k : Int)) = (p : Int) * 16 + (k : Int) ∧ IntKind.i64.wrap ((p : Int) * 16 + (k : Int)) = (p : Int) * 16 + (k : Int) :=
  ⟨IntWalk.wrap64_in _ (by omega), IntWalk.i64_in _ (by omega), IntWalk.wrap64_in _ (by omega), IntWalk.i64_in _ (by omega)⟩
theorem wr_next {k : Nat} (h : k < 16) : (Value.int .i64 (wrap64 ((k : Int) + 1))) = .int .i64 ((k + 1 : Nat) : Int) := by rw [IntWalk.wrap64_in _ (by omega)]; rfl
theorem wr_meas {k : Nat} (h : k < 16) : 16 - (intOf (.int .i64 (wrap64 ((k : Int) + 1)))).toNat < 16 - (intOf (.int .i64 (k : Int))).toNat := by rw [IntWalk.wrap64_in _ (by omega)]; simp [intOf]; omega
theorem wr_val {x : Int} (h0 : 0 ≤ x) (h1 : x < 999) : 0 ≤ 1 + x ∧ 1 + x ≤ 999 := by omega
theorem wr_len {W0 : List (Nat × Int)} {p : Nat × Int} (h : W0.length < 3) : (W0 ++ [p]).length ≤ 3 := by rw [List.length_append, List.length_singleton]; omega
theorem wl_len {n : Nat} (h : n ≤ 3) : n + 1 ≤ maxLen ∧ (n + 1) * 32 ≤ 140737488355328 := by unfold maxLen; omega
theorem one_wraps {x : Int} (h0 : 0 ≤ x) (h1 : x < 999) : wrap64 (1 + x) = 1 + x ∧ IntKind.i64.wrap (1 + x) = 1 + x := ⟨IntWalk.wrap64_in _ (by omega), IntWalk.i64_in _ (by omega)⟩
theorem fwrN (w : World) (s : Wr) : ∀ j u, (fWr s)[j]? = some u → (w.alloc (.cells #[.int .i64 s.ad, .int .i64 s.va, .bool s.dn, .int .i64 s.wt] 65)).cell? ⟨w.heap.size, j, none⟩ = some u := by
  intro j u hj
  match j, hj with
  | 0, hj => simp [fWr] at hj; subst hj; go_simp
  | 1, hj => simp [fWr] at hj; subst hj; go_simp
  | 2, hj => simp [fWr] at hj; subst hj; go_simp
  | 3, hj => simp [fWr] at hj; subst hj; go_simp
  | j + 4, hj => simp [fWr] at hj
theorem w0_lt {W0 : List (Nat × Int)} {k : Nat} {v : Int} (h : ∀ x ∈ W0, x.1 < k) : ∀ x ∈ W0 ++ [(k, v)], x.1 < k + 1 := fun x hx => by
  rcases List.mem_append.1 hx with hx | hx
  · have := h x hx; omega
  · rw [List.mem_singleton.1 hx]; exact Nat.lt_succ_self _
theorem w0_snoc {W0 : List (Nat × Int)} {k : Nat} {v : Int} (h : W0Ok W0) (hl : ∀ x ∈ W0, x.1 < k) (hk : k < 16) (hv : 0 ≤ v ∧ v ≤ 999) : W0Ok (W0 ++ [(k, v)]) := by
  refine ⟨fun x hx => ?_, fun p q x y hp hq hxy => ?_⟩
  · rcases List.mem_append.1 hx with hx | hx
    · exact h.rng x hx
    · rw [List.mem_singleton.1 hx]; exact ⟨hk, hv⟩
  · have app : ∀ (i : Nat) (s : Nat × Int), (W0 ++ [(k, v)])[i]? = some s → (i < W0.length ∧ W0[i]? = some s) ∨ (i = W0.length ∧ s = (k, v)) := by
      intro i s hs
      rcases Nat.lt_or_ge i W0.length with hi | hi
      · rw [List.getElem?_append_left hi] at hs; exact .inl ⟨hi, hs⟩
      · rw [List.getElem?_append_right hi] at hs
        have := getx_lt hs
        simp at this
        obtain rfl : i = W0.length := by omega
        simp at hs
        exact .inr ⟨rfl, hs.symm⟩
    rcases app p x hp with ⟨-, hp⟩ | ⟨rfl, rfl⟩
    · rcases app q y hq with ⟨-, hq⟩ | ⟨rfl, rfl⟩
      · exact h.nd p q x y hp hq hxy
      · have := hl x (List.mem_of_getElem? hp); dsimp only at hxy; omega
    · rcases app q y hq with ⟨-, hq⟩ | ⟨rfl, rfl⟩
      · have := hl y (List.mem_of_getElem? hq); dsimp only at hxy; omega
      · rfl
def DrawnWr (B : Nat) (w : World) (g : Nat) (kp mv : Nat) (cs : List Int) (e : Ending) (w' : World) : Prop := ∃ (v : Value) (W0 : List (Nat × Int)), e = .returned v ∧ W0Ok W0 ∧ W0.length ≤ 3 ∧ OwnWr w.heap.size w' v (W0.map (wrOf kp mv cs)) ∧ Cur B w' g ∧ w.grownBy w' (some g)
set_option maxRecDepth 20000 in
set_option maxHeartbeats 3200000 in
theorem s_l15Writers (B g b0 kp mv : Nat) (v : Value) (cs : List Int) (hk4 : kp < 4) (hm4 : mv < 4) (hgb : g < b0) (w : World) (hcur : Cur B w g) (hv : OwnI b0 w v cs) : Calls Try.prog 53 #[.pointer (some ⟨g, 0, none⟩), .agg #[.int .i64 (kp : Int), .int .i64 (mv : Int), v]] w (DrawnWr B w g kp mv cs) := by
  have hg := hcur.lt
  have hBg := hcur.1
  obtain ⟨vo, vc, rfl, -, -, -⟩ := Own.shape hv
  have hbv : ∀ b ∈ blocks [(.slice vo cs.length vc : Value)], b < w.heap.size := fun b hb => (Own.lts hv b hb).2
  (have hall := all_nil w; go_enter Try.func53, Try.ntmps53)
  go_wp2_with fail
  have up : Below w.heap.size w ((w.alloc (.cells #[.int .i64 (kp : Int), .int .i64 (mv : Int), .slice vo cs.length vc] 37)).alloc (.cells #[] 65)) := ((Below.refl _ _).alloc (Nat.le_refl _) _).alloc (by simp only [World.size_alloc]; omega) _
  have HP := Lib.hid (show BoxAt ((w.alloc (.cells #[.int .i64 (kp : Int), .int .i64 (mv : Int), .slice vo cs.length vc] 37)).alloc (.cells #[] 65)) w.heap.size [.int .i64 (kp : Int), .int .i64 (mv : Int), .slice vo cs.length vc] from BoxAt.snoc (BoxAt.snoc (BoxAt.snoc (BoxAt.nil (by go_simp)) rfl (by go_simp) (by go_simp)) rfl (by go_simp) (by go_simp)) rfl (by go_simp) (by go_simp))
  have HO : Hid (OwnWr (w.heap.size + 1) ((w.alloc (.cells #[.int .i64 (kp : Int), .int .i64 (mv : Int), .slice vo cs.length vc] 37)).alloc (.cells #[] 65)) (.slice (some ⟨w.heap.size + 1, 0, none⟩) 0 0) []) := Lib.hid (Own.empty' _ _ _ _ _ _ (by simp only [World.size_alloc]) (by simp only [World.size_alloc]; omega))
  have HV := Lib.hid (Own.below hv up); have HC := Lib.hid (hcur.below up); have HG := Lib.hid (grown_belowW (grown_refl w (some g)) up)
  clear hcur hv up
  go_loopw [5, 6] (fun o i wr => ∃ (k : Nat) (vo1 : Option Addr) (vc1 : Nat) (W0 : List (Nat × Int)), k ≤ 16 ∧ i = .int .i64 (k : Nat) ∧ W0Ok W0 ∧ (∀ x ∈ W0, x.1 < k) ∧ W0.length ≤ 3 ∧ o = .slice vo1 W0.length vc1 ∧ OwnWr (w.heap.size + 1) wr (.slice vo1 W0.length vc1) (W0.map (wrOf kp mv cs)) ∧ BoxAt wr w.heap.size [.int .i64 (kp : Int), .int .i64 (mv : Int), .slice vo cs.length vc] ∧ OwnI b0 wr (.slice vo cs.length vc) cs ∧ Cur B wr g ∧ w.grownBy wr (some g)) (fun _ i _ => 16 - (intOf i).toNat)
  case atStart => exact ⟨0, _, _, [], Nat.zero_le _, rfl, ⟨(by simp), (by intro p q x y hp; simp at hp)⟩, (by simp), Nat.zero_le _, rfl, HO.out, HP.out, HV.out, HC.out, HG.out⟩
  case round =>
    clear HO HP HV HC HG
    obtain ⟨k, vo1, vc1, W0, hk, rfl, hw0, hlt0, hwl, rfl, hown, hbp, hvo, hcr, hgr⟩ := hrel
    have HW := Lib.hid hw0; have HLT := Lib.hid hlt0; have HO := Lib.hid hown; have HP := Lib.hid hbp; have HV := Lib.hid hvo; have HC := Lib.hid hcr; have HG := Lib.hid hgr
    clear hw0 hlt0 hown hbp hvo hcr hgr
    obtain ⟨w1, rfl⟩ : ∃ q, q = wr := ⟨_, rfl⟩
    by_cases hlt : k < 16
    · have hlt' : (k : Int) < 16 := by omega
      by_cases hw3 : W0.length < 3
      · have hw3' : (W0.length : Int) < 3 := by omega
        go_wp2_with fail
        refine (s_l01Once B g 4 _ HC.out).mono ?_; rintro e w3 ⟨r, rfl, hcur3, hgr3⟩
        have t3 : Touch [g] w1 w3 := grown_touch hgr3 fun b hb => by cases hb; simp
        have HO3 := Lib.hid (Own.touch HO.out t3 (fun b hb hm => by have h1 := (HO.out.lt b hb).1; have := List.mem_singleton.1 hm; omega))
        have HP3 := Lib.hid (HP.out.touch t3 (by simp; omega)); have HV3 := Lib.hid (Own.touch HV.out t3 (fun b hb hm => by have h1 := (HV.out.lt b hb).1; have := List.mem_singleton.1 hm; omega)); have HC3 := Lib.hid hcur3
        have HG3 := Lib.hid (grown_trans HG.out hgr3)
        clear t3 hcur3 hgr3 HO HP HV HC HG
        cases r
        · go_wp2_with fail
          go_roundw
          case rel => exact ⟨k + 1, vo1, vc1, W0, by omega, by go_num, HW.out, fun x hx => by have := HLT.out x hx; omega, hwl, rfl, HO3.out, HP3.out, HV3.out, HC3.out, HG3.out⟩
          case measure => simp [intOf]; omega
        · have p0 := (HP3.out.cells 0 _ rfl).1; have p1 := (HP3.out.cells 1 _ rfl).1; have p2 := (HP3.out.cells 2 _ rfl).1; have xp := HP3.out.lt
          have HCK := Lib.hid (HV3.out.at lenInt)
          cases hb : hasI cs (k : Int)
          · have hh0 := hb
            obtain ⟨m1, m2, m3, m4⟩ := wr_wraps hk4 hlt
            go_wp2_with (first | (go_at_call 61; (refine (s_l08Has _ cs k _ hh0 _ HCK.out).mono ?_); rintro e w2 ⟨rfl, rfl⟩))
            refine (s_l01Below B g 999 _ HC3.out).mono ?_; rintro e w4 ⟨x, hx, rfl, hcur4, hgr4⟩
            have hx1 : x < 999 := hx.2.1 (by decide)
            have hx0 := hx.1
            have t4 : Touch [g] w3 w4 := grown_touch hgr4 fun b hb => by cases hb; simp
            have HO4 := Lib.hid (Own.touch HO3.out t4 (fun b hb hm => by have h1 := (HO3.out.lt b hb).1; have := List.mem_singleton.1 hm; omega))
            have HP4 := Lib.hid (HP3.out.touch t4 (by simp; omega)); have HV4 := Lib.hid (Own.touch HV3.out t4 (fun b hb hm => by have h1 := (HV3.out.lt b hb).1; have := List.mem_singleton.1 hm; omega)); have HC4 := Lib.hid hcur4
            have HG4 := Lib.hid (grown_trans HG3.out hgr4)
            obtain ⟨m5, m6⟩ := one_wraps hx0 hx1
            have hsz4 := HG4.out.size
            have hxp := HP4.out.lt
            clear t4 hx hcur4 hgr4 HO3 HP3 HV3 HC3 HG3 p0 p1 p2 xp
            go_wp2_with (at_builtin; refine wpList_append1 elemWr rfl _ _ rfl lenWr rfl (Own.alloc HO4.out _) (by rw [World.size_alloc]; exact Nat.le_succ_of_le hxp) rfl (⟨(kp : Int) * 16 + (k : Int), 1 + x, false, 0⟩ : Wr) (oneWr _) (fwrN _ ⟨(kp : Int) * 16 + (k : Int), 1 + x, false, 0⟩) (by rw [List.length_map]; exact wl_len hwl) ?_; intro v5 w5 hown5 hgr5 hat5 hb5; obtain ⟨vo5, vc5, hv5, -, -⟩ := Own.shape hown5; rw [List.length_append, List.length_map, List.length_singleton] at hv5; subst hv5; have H5 := Lib.hid hown5; have HB5 := Lib.hid hb5; clear hown5 hgr5 hat5 hb5)
            have upA : Below (w.heap.size + 1) w4 w5 := ((Below.refl _ _).alloc hxp (.cells #[.int .i64 ((kp : Int) * 16 + (k : Int)), .int .i64 (1 + x), .bool false, .int .i64 0] 65)).trans HB5.out
            have up0 : Below w.heap.size w4 w5 := upA.mono (Nat.le_succ _)
            have hmap : W0.map (wrOf kp mv cs) ++ [(⟨(kp : Int) * 16 + (k : Int), 1 + x, false, 0⟩ : Wr)] = (W0 ++ [(k, 1 + x)]).map (wrOf kp mv cs) := by
              rw [List.map_append]
              simp only [List.map_cons, List.map_nil, wrOf]
              rw [live_out cs k hh0]
            have ho5 := H5.out
            rw [hmap] at ho5
            go_roundw
            case rel => exact ⟨k + 1, vo5, vc5, W0 ++ [(k, 1 + x)], hlt, wr_next hlt, w0_snoc HW.out HLT.out hlt (wr_val hx0 hx1), w0_lt HLT.out, wr_len hw3, (by first | rfl | simp), by simpa using ho5, ⟨Nat.lt_of_lt_of_le HP4.out.lt upA.size, fun i u hi => ⟨(upA.cell (p := ⟨w.heap.size, i, none⟩) (Nat.lt_succ_self _)).trans (HP4.out.cells i u hi).1, (upA.frozen (p := ⟨w.heap.size, i, none⟩) (Nat.lt_succ_self _)).trans (HP4.out.cells i u hi).2⟩⟩, HV4.out.kept (fun b hb => upA.block b (by have := hbv b (mem_one hb); omega)), HC4.out.stays upA.size (fun q hq => upA.block q (by omega)), grown_belowW HG4.out up0⟩
            case measure => exact wr_meas hlt
          · have hh1 := hb
            obtain ⟨m1, m2, m3, m4⟩ := wr_wraps hm4 hlt
            go_wp2_with (first | (go_at_call 61; (refine (s_l08Has _ cs k _ hh1 _ HCK.out).mono ?_); rintro e w2 ⟨rfl, rfl⟩))
            refine (s_l01Below B g 999 _ HC3.out).mono ?_; rintro e w4 ⟨x, hx, rfl, hcur4, hgr4⟩
            have hx1 : x < 999 := hx.2.1 (by decide)
            have hx0 := hx.1
            have t4 : Touch [g] w3 w4 := grown_touch hgr4 fun b hb => by cases hb; simp
            have HO4 := Lib.hid (Own.touch HO3.out t4 (fun b hb hm => by have h1 := (HO3.out.lt b hb).1; have := List.mem_singleton.1 hm; omega))
            have HP4 := Lib.hid (HP3.out.touch t4 (by simp; omega)); have HV4 := Lib.hid (Own.touch HV3.out t4 (fun b hb hm => by have h1 := (HV3.out.lt b hb).1; have := List.mem_singleton.1 hm; omega)); have HC4 := Lib.hid hcur4
            have HG4 := Lib.hid (grown_trans HG3.out hgr4)
            obtain ⟨m5, m6⟩ := one_wraps hx0 hx1
            have hsz4 := HG4.out.size
            have hxp := HP4.out.lt
            clear t4 hx hcur4 hgr4 HO3 HP3 HV3 HC3 HG3 p0 p1 p2 xp
            go_wp2_with (at_builtin; refine wpList_append1 elemWr rfl _ _ rfl lenWr rfl (Own.alloc HO4.out _) (by rw [World.size_alloc]; exact Nat.le_succ_of_le hxp) rfl (⟨(mv : Int) * 16 + (k : Int), 1 + x, false, 0⟩ : Wr) (oneWr _) (fwrN _ ⟨(mv : Int) * 16 + (k : Int), 1 + x, false, 0⟩) (by rw [List.length_map]; exact wl_len hwl) ?_; intro v5 w5 hown5 hgr5 hat5 hb5; obtain ⟨vo5, vc5, hv5, -, -⟩ := Own.shape hown5; rw [List.length_append, List.length_map, List.length_singleton] at hv5; subst hv5; have H5 := Lib.hid hown5; have HB5 := Lib.hid hb5; clear hown5 hgr5 hat5 hb5)
            have upA : Below (w.heap.size + 1) w4 w5 := ((Below.refl _ _).alloc hxp (.cells #[.int .i64 ((mv : Int) * 16 + (k : Int)), .int .i64 (1 + x), .bool false, .int .i64 0] 65)).trans HB5.out
            have up0 : Below w.heap.size w4 w5 := upA.mono (Nat.le_succ _)
            have hmap : W0.map (wrOf kp mv cs) ++ [(⟨(mv : Int) * 16 + (k : Int), 1 + x, false, 0⟩ : Wr)] = (W0 ++ [(k, 1 + x)]).map (wrOf kp mv cs) := by
              rw [List.map_append]
              simp only [List.map_cons, List.map_nil, wrOf]
              rw [live_in cs k hh1]
            have ho5 := H5.out
            rw [hmap] at ho5
            go_roundw
            case rel => exact ⟨k + 1, vo5, vc5, W0 ++ [(k, 1 + x)], hlt, wr_next hlt, w0_snoc HW.out HLT.out hlt (wr_val hx0 hx1), w0_lt HLT.out, wr_len hw3, (by first | rfl | simp), by simpa using ho5, ⟨Nat.lt_of_lt_of_le HP4.out.lt upA.size, fun i u hi => ⟨(upA.cell (p := ⟨w.heap.size, i, none⟩) (Nat.lt_succ_self _)).trans (HP4.out.cells i u hi).1, (upA.frozen (p := ⟨w.heap.size, i, none⟩) (Nat.lt_succ_self _)).trans (HP4.out.cells i u hi).2⟩⟩, HV4.out.kept (fun b hb => upA.block b (by have := hbv b (mem_one hb); omega)), HC4.out.stays upA.size (fun q hq => upA.block q (by omega)), grown_belowW HG4.out up0⟩
            case measure => exact wr_meas hlt
      · have hw3' : ¬ (W0.length : Int) < 3 := by omega
        go_wp2_with fail
        go_ret
        exact ⟨_, W0, rfl, HW.out, hwl, HO.out.mono (by omega), HC.out, HG.out⟩
    · have hlt' : ¬ (k : Int) < 16 := by omega
      go_wp2_with fail
      go_ret
      exact ⟨_, W0, rfl, HW.out, hwl, HO.out.mono (by omega), HC.out, HG.out⟩

end Go.Proofs.Ytkkebpcclklmcaa
/-
  An order of steps, as the reference draws it.
-/
set_option linter.unusedVariables false
set_option linter.unusedSimpArgs false
namespace Go.Proofs.Ytkkebpcclklmcaa
open Go.RowKit
def DrawnOrd (B : Nat) (w : World) (g : Nat) (e : Ending) (w' : World) : Prop := ∃ (v : Value) (xs : List Int), e = .returned v ∧ xs.length ≤ 80 ∧ OwnI w.heap.size w' v xs ∧ Cur B w' g ∧ w.grownBy w' (some g)
set_option maxRecDepth 20000 in
theorem s_l15Order (B g : Nat) (w : World) (hcur : Cur B w g) : Calls Try.prog 54 #[.pointer (some ⟨g, 0, none⟩)] w (DrawnOrd B w g) := by
  have hg := hcur.lt
  have hBg := hcur.1
  (have hall := all_nil w; go_enter Try.func54, Try.ntmps54)
  go_wp2_with fail
  have hcur0 : Cur B (w.alloc (.cells #[] 3)) g := hcur.below ((Below.refl _ _).alloc (Nat.le_refl _) _)
  have hgr0 := World.grownBy_alloc w (.cells #[] 3) (some g)
  have HC := Lib.hid hcur0; have HG := Lib.hid hgr0
  clear hcur hcur0 hgr0
  go_loopw [3, 4] (fun o i wr => ∃ (k : Nat) (vo : Option Addr) (vc : Nat) (xs : List Int), k ≤ 40 ∧ xs.length ≤ 2 * k ∧ i = .int .i64 (k : Nat) ∧ o = .slice vo xs.length vc ∧ OwnI w.heap.size wr (.slice vo xs.length vc) xs ∧ Cur B wr g ∧ w.grownBy wr (some g)) (fun _ i _ => 40 - (intOf i).toNat)
  case atStart => exact ⟨0, _, _, [], Nat.zero_le _, Nat.zero_le _, rfl, rfl, Own.empty _ _ _ _ _ (Nat.le_refl _), HC.out, HG.out⟩
  case round =>
    clear HC HG
    obtain ⟨k, vo, vc, xs, hk, hn, rfl, rfl, hown, hcr, hgr⟩ := hrel
    go_wp2_with fail
    refine (s_l01Below B g _ _ hcr).mono ?_; rintro e w3 ⟨x, hx, rfl, hcur3, hgr3⟩
    have hx1 := hx.2.1 (by omega)
    have HGA := Lib.hid (grown_trans hgr hgr3); have HOA := Lib.hid (hown.grown hgr3 hg); have HCA := Lib.hid hcur3
    clear hx hcr hgr hgr3 hown hcur3
    by_cases hlt : (k : Int) < x
    · have hk2 : k < 40 := by omega
      go_wp2_with fail
      refine (s_l01Below B g _ _ HCA.out).mono ?_; rintro e w4 ⟨y, hy, rfl, hcur4, hgr4⟩
      have hy1 := hy.2.1 (by omega)
      have hy0 := hy.1
      have HGX := Lib.hid (grown_trans HGA.out hgr4); have HOX := Lib.hid (HOA.out.grown hgr4 hg); have HCX := Lib.hid hcur4
      have e1 : wrap64 (y - 1) = y - 1 := IntWalk.wrap64_in _ (by omega)
      have e2 : IntKind.i64.wrap (y - 1) = y - 1 := IntWalk.i64_in _ (by omega)
      clear HGA HOA HCA hcur4 hgr4 hy
      have hsz := HGX.out.size
      go_wp2_with (at_builtin; refine append1 elemInt rfl _ _ rfl lenInt oneInt rfl (HOX.out.alloc _) (by simp only [World.size_alloc]; omega) rfl (y - 1) (intCell _ _) (by unfold maxLen; omega) ?_; intro v2 w2 hown2 _ hb2; obtain ⟨vo2, vc2, rfl, -, -⟩ := hown2.shape; have OR := Lib.hid hown2; have HB2 := Lib.hid hb2; clear hown2 hb2)
      have hup : Below w.heap.size w4 (w4.alloc (.cells #[.int .i64 (y - 1)] 3)) := (Below.refl _ _).alloc hsz _
      have hbl := hup.trans HB2.out
      have hcN := HCX.out.stays hbl.size (fun k hk => hbl.block k (by omega))
      have hgN := grown_belowW HGX.out hbl
      refine (s_l01Once B g _ _ hcN).mono ?_; rintro e w5 ⟨r, rfl, hcur5, hgr5⟩
      have HG5 := Lib.hid (grown_trans hgN hgr5); have HO5 := Lib.hid (OR.out.grown hgr5 hg); have HC5 := Lib.hid hcur5
      clear HGX HOX HCX hup hbl hcN hgN HB2 OR hcur5 hgr5 e1 e2
      cases r
      · go_wp2_with fail
        go_roundw
        case rel => exact ⟨k + 1, vo2, vc2, xs ++ [y - 1], by omega, by rw [List.length_append]; simp; omega, by go_num, (by first | rfl | simp), HO5.out, HC5.out, HG5.out⟩
        case measure => simp [intOf]; omega
      · have HGX := HG5; have HCX := HC5
        have hsz := HGX.out.size
        have hl5 : (xs ++ [y - 1]).length = xs.length + 1 := by rw [List.length_append]; rfl
        have HOX : Hid (Own 3 1 fInt w.heap.size w5 (.slice vo2 (xs.length + 1) vc2) (xs ++ [y - 1])) := Lib.hid (by rw [← hl5]; exact HO5.out)
        clear HG5 HO5 HC5
        go_wp2_with (at_builtin; refine append1 elemInt rfl _ _ rfl lenInt oneInt rfl (HOX.out.alloc _) (by simp only [World.size_alloc]; omega) rfl (-1) (intCell _ _) (by rw [hl5]; unfold maxLen; omega) ?_; intro v3 w2 hown2 _ hb2; obtain ⟨vo3, vc3, rfl, -, -⟩ := hown2.shape; have OR := Lib.hid hown2; have HB2 := Lib.hid hb2; clear hown2 hb2)
        have hup : Below w.heap.size w5 (w5.alloc (.cells #[.int .i64 (-1)] 3)) := (Below.refl _ _).alloc hsz _
        have hbl := hup.trans HB2.out
        have hcN := HCX.out.stays hbl.size (fun k hk => hbl.block k (by omega))
        have hgN := grown_belowW HGX.out hbl
        go_roundw
        case rel => exact ⟨k + 1, vo3, vc3, xs ++ [y - 1] ++ [-1], by omega, by rw [List.length_append, List.length_append]; simp; omega, by go_num, (by first | rfl | simp), OR.out, hcN, hgN⟩
        case measure => simp [intOf]; omega
    · go_wp2_with fail
      go_ret
      exact ⟨_, _, rfl, by omega, HOA.out, HCA.out, HGA.out⟩

end Go.Proofs.Ytkkebpcclklmcaa
