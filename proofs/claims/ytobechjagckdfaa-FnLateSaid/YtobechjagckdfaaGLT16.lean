/-
  Texts put together: Case.
-/
import Derived.Test.YtobechjagckdfaaGLT13
import Derived.Test.YtobechjagckdfaaGLT14
import Derived.Test.YtobechjagckdfaaGLT10
import Derived.Test.YtobechjagckdfaaGLT15
/-
  Kernels with a span on each mapped page, as the reference draws them.
-/
set_option linter.unusedVariables false
set_option linter.unusedSimpArgs false
namespace Go.Proofs.Ytobechjagckdfaa
open Go.RowKit
def DrawnCase (B : Nat) (w : World) (g : Nat) (e : Ending) (w' : World) : Prop := ∃ (y : KV) (K : Ker) (v : Value) (sp : List Sp) (c : Int), e = .returned (.tuple #[y.val K.calls, v]) ∧ SInv K sp c 3 ∧ K.calls ≤ 6 ∧ sp.length ≤ 3 ∧ KOwn w.heap.size w' y K ∧ OwnSp w.heap.size w' v sp ∧ (∀ b ∈ blocks [v], b ∉ blocks y.all) ∧ w.grownBy w' (some g)
theorem case_cell {p c : Int} {b : Nat} (hb : b < 65536) (hc : 0 ≤ c ∧ c ≤ 3) {x : Int} (hx : x ∈ spanCells p c (b : Int)) : ∃ j : Nat, j < 16 ∧ x = (j : Int) ∧ b.testBit (j / (classSize c).toNat) = true := by
  have key : ∀ k, k ≤ 16 → x ∈ cellsTo c (b : Int) k → ∃ j : Nat, j < 16 ∧ x = (j : Int) ∧ b.testBit (j / (classSize c).toNat) = true := by
    intro k
    induction k with
    | zero => intro _ h; cases h
    | succ k ih =>
      intro hk h
      rw [cellsTo] at h
      rcases List.mem_append.1 h with h | h
      · exact ih (by omega) h
      · split at h
        · rename_i hs
          have hx2 := List.mem_singleton.1 h
          obtain ⟨z, hz⟩ := Int.eq_ofNat_of_zero_le (classSize_bound c).1
          have hz1 : 1 ≤ z := by rcases slots_cases hc with h | h | h | h <;> have := h.2 <;> omega
          refine ⟨k, by omega, hx2, ?_⟩
          rw [hz, ← Int.natCast_ediv, hasSlot_bit _ _ hb (by have := Nat.div_le_self k z; omega)] at hs
          rw [hz, Int.toNat_natCast]
          exact hs
        · cases h
  unfold spanCells at hx
  split at hx
  · exact key 16 (Nat.le_refl _) hx
  · cases hx
set_option maxRecDepth 20000 in
set_option maxHeartbeats 6400000 in
theorem s_l16Case (B g : Nat) (w : World) (hcur : Cur B w g) : Calls Try.prog 21 #[.pointer (some ⟨g, 0, none⟩)] w (DrawnCase B w g) := by
  have hg := hcur.lt
  have hBg := hcur.1
  (have hall := all_nil w; go_enter Try.func21, Try.ntmps21)
  go_wp2_with fail
  refine (s_l08Refuse B g _ (hcur.below ((Below.refl _ _).alloc (Nat.le_refl _) (.cells #[.slice none 0 0, .slice none 0 0, .slice none 0 0, .int .i64 0, .slice none 0 0] 35)))).mono ?_; rintro e w2 ⟨v0, rf, rfl, hrl, hrx, hrf, hcur2, hgr2⟩
  have G2 := grown_trans (World.grownBy_alloc w (.cells #[.slice none 0 0, .slice none 0 0, .slice none 0 0, .int .i64 0, .slice none 0 0] 35) (some g)) hgr2
  have b2 : BoxAt w2 w.heap.size [.slice none 0 0, .slice none 0 0, .slice none 0 0, .int .i64 0, .slice none 0 0] := by
    have b0 : BoxAt (w.alloc (.cells #[.slice none 0 0, .slice none 0 0, .slice none 0 0, .int .i64 0, .slice none 0 0] 35)) w.heap.size [.slice none 0 0, .slice none 0 0, .slice none 0 0, .int .i64 0, .slice none 0 0] := BoxAt.snoc (BoxAt.snoc (BoxAt.snoc (BoxAt.snoc (BoxAt.snoc (BoxAt.nil (by go_simp)) rfl (by go_simp) (by go_simp)) rfl (by go_simp) (by go_simp)) rfl (by go_simp) (by go_simp)) rfl (by go_simp) (by go_simp)) rfl (by go_simp) (by go_simp)
    exact b0.touch (S := [g]) (grown_touch hgr2 fun b hb => by cases hb; simp) (by simp; omega)
  have HB2 := Lib.hid b2; have HG2 := Lib.hid G2; have HC2 := Lib.hid hcur2; have HR2 := Lib.hid hrf
  have hz2 := hgr2.size
  simp only [World.size_alloc] at hz2
  clear hcur hgr2 G2 b2 hcur2 hrf
  go_wp2_with fail
  refine (s_KernelNew v0 rf hrx hrl _ (HR2.out.at lenInt)).mono ?_; rintro e w3 ⟨y, rfl, hyo, hb3⟩
  obtain ⟨yco, ycc, yuo, yuc, yvs, yeo, yec, yro, yrc, rfl⟩ := KOwn.shapes hyo
  have HO3 : Hid (KOwn w2.heap.size w3 ⟨⟨⟨.slice yco yvs.length ycc, .slice yuo 4 yuc, yvs⟩, .slice yeo 4 yec⟩, .slice yro rf.length yrc⟩ (newK 4 4 rf)) := Lib.hid hyo; have HB3 := Lib.hid hb3
  have hz3 := hb3.size
  simp only [KV.val, newK]
  clear hyo hb3
  go_wp2_with fail
  have up : Below w3.heap.size w3 ((w3.alloc (.cells #[.slice yco yvs.length ycc, .slice yuo 4 yuc, .slice yeo 4 yec, .int .i64 0, .slice yro rf.length yrc] 35)).alloc (.cells #[] 49)) := ((Below.refl _ _).alloc (Nat.le_refl _) _).alloc (by simp only [World.size_alloc]; omega) _
  have up2 : Below w2.heap.size w2 ((w3.alloc (.cells #[.slice yco yvs.length ycc, .slice yuo 4 yuc, .slice yeo 4 yec, .int .i64 0, .slice yro rf.length yrc] 35)).alloc (.cells #[] 49)) := HB3.out.trans (up.mono hz3)
  have K5 : KIn w.heap.size ((w3.alloc (.cells #[.slice yco yvs.length ycc, .slice yuo 4 yuc, .slice yeo 4 yec, .int .i64 0, .slice yro rf.length yrc] 35)).alloc (.cells #[] 49)) w3.heap.size ⟨⟨⟨.slice yco yvs.length ycc, .slice yuo 4 yuc, yvs⟩, .slice yeo 4 yec⟩, .slice yro rf.length yrc⟩ (newK 4 4 rf) := ⟨⟨(by first | (go_simp; done) | (go_simp; rfl)), (by first | (go_simp; done) | (go_simp; rfl)), (by first | (go_simp; done) | (go_simp; rfl)), (by first | (go_simp; done) | (go_simp; rfl)), (by first | (go_simp; done) | (go_simp; rfl)), (by first | (go_simp; done) | (go_simp; rfl)), (by first | (go_simp; done) | (go_simp; rfl)), (by first | (go_simp; done) | (go_simp; rfl)), (by first | (go_simp; done) | (go_simp; rfl)), (by first | (go_simp; done) | (go_simp; rfl)), (by first | (go_simp; done) | (go_simp; rfl))⟩, (HO3.out.below up).mono (by omega), by omega, fun hm => by have := (HO3.out.lts _ hm).2; omega⟩
  have S5 : DrSt B w ((w3.alloc (.cells #[.slice yco yvs.length ycc, .slice yuo 4 yuc, .slice yeo 4 yec, .int .i64 0, .slice yro rf.length yrc] 35)).alloc (.cells #[] 49)) g w3.heap.size ⟨⟨⟨.slice yco yvs.length ycc, .slice yuo 4 yuc, yvs⟩, .slice yeo 4 yec⟩, .slice yro rf.length yrc⟩ (newK 4 4 rf) [w.heap.size, w3.heap.size + 1] := by
    refine ⟨K5, HC2.out.below up2, grown_belowW HG2.out (up2.mono (by omega)), hg, fun b hb => ?_⟩
    simp only [List.mem_cons, List.not_mem_nil, or_false] at hb
    simp only [World.size_alloc]
    rcases hb with rfl | rfl
    · exact ⟨by omega, by omega, by omega, fun hm => by have := (HO3.out.lts _ hm).1; omega⟩
    · exact ⟨by omega, by omega, by omega, fun hm => by have := (HO3.out.lts _ hm).2; omega⟩
  have B5 : BoxAt ((w3.alloc (.cells #[.slice yco yvs.length ycc, .slice yuo 4 yuc, .slice yeo 4 yec, .int .i64 0, .slice yro rf.length yrc] 35)).alloc (.cells #[] 49)) w.heap.size [.slice none 0 0, .slice none 0 0, .slice none 0 0, .int .i64 0, .slice none 0 0] := HB2.out.below up2
  have O5 : OwnSp (w.heap.size + 1) ((w3.alloc (.cells #[.slice yco yvs.length ycc, .slice yuo 4 yuc, .slice yeo 4 yec, .int .i64 0, .slice yro rf.length yrc] 35)).alloc (.cells #[] 49)) (.slice (some ⟨w3.heap.size + 1, 0, none⟩) 0 0) [] := Own.empty' _ _ _ _ _ _ (by simp only [World.size_alloc]) (by simp only [World.size_alloc]; omega)
  refine (s_l01Below B g 4 _ S5.cur).mono ?_; rintro e w6 ⟨c, hc, rfl, hcur6, hgr6⟩
  have hc0 := hc.1; have hc1 := hc.2.1 (by omega)
  obtain ⟨S6, K6⟩ := S5.draw hgr6 hcur6
  have HS0 := Lib.hid S6
  have HB0 := Lib.hid (B5.keep K6 (List.mem_cons_self ..) hgr6.size)
  have HO0 := Lib.hid (Own.keep O5 K6 (fun k hk => by cases List.mem_singleton.1 hk; simp))
  have HI0 := Lib.hid (newK_sinv (c := c) hrx (by omega) ⟨hc0, by omega⟩)
  clear up up2 K5 S5 B5 O5 hgr6 hcur6 S6 K6 HB2 HG2 HC2 HR2 HO3 HB3 hc
  generalize w3.heap.size = gk at *
  go_wp2_with fail
  go_loopw [6, 8] (fun o i wr => ∃ (n : Nat) (vo : Option Addr) (vc : Nat) (sp : List Sp) (y : KV) (K : Ker), n ≤ 3 ∧ i = .int .i64 (n : Nat) ∧ o = .slice vo sp.length vc ∧ sp.length ≤ n ∧ SInv K sp c n ∧ K.calls ≤ 2 * n ∧ OwnSp (w.heap.size + 1) wr (.slice vo sp.length vc) sp ∧ BoxAt wr w.heap.size [.slice none 0 0, .slice none 0 0, .slice none 0 0, .int .i64 0, .slice none 0 0] ∧ DrSt B w wr g gk y K (w.heap.size :: blocks [.slice vo sp.length vc])) (fun _ i _ => 3 - (intOf i).toNat)
  case atStart => exact ⟨0, _, _, [], _, newK 4 4 rf, Nat.zero_le _, rfl, rfl, Nat.le_refl _, HI0.out, by unfold newK; simp, HO0.out, HB0.out, HS0.out⟩
  case round =>
    obtain ⟨n, vo, vc, sp, y, K, hn, rfl, rfl, hsp, hinv, hcl, hown, hbx, hst⟩ := hrel
    clear HI0 HO0 HB0 HS0
    have HS := Lib.hid hst; have HI := Lib.hid hinv; have HO := Lib.hid hown; have HB := Lib.hid hbx
    clear hst hinv hown hbx
    obtain ⟨w1, rfl⟩ : ∃ q, q = wr := ⟨_, rfl⟩
    by_cases hlt : n < 3
    · have hlt' : (n : Int) < 3 := by omega
      have hcan : canCall K = true := (canCall_iff K).2 ⟨HI.out.kok, by have := HI.out.calls; omega⟩
      have NEW := s_l08NewT w.heap.size gk y K n hcan _ HS.out.kin
      cases hnb : newB K n
      · rw [hnb] at NEW
        go_wp2_with fail
        refine NEW.mono ?_; rintro e w7 ⟨y2, rfl, hk7, hb7, ht7, hf7⟩
        obtain ⟨S7, K7⟩ := HS.out.kstep hk7 ht7 hf7
        clear NEW
        go_wp2_with fail
        go_roundw
        case rel => exact ⟨n + 1, vo, vc, sp, y2, _, by omega, by go_num, rfl, by omega, sinv_fail HI.out (by omega) (by omega) hnb, by rw [(mapNew_ok HI.out.ok n).2.2]; omega, Own.keep HO.out K7 (fun k hk => List.mem_cons_of_mem _ hk), HB.out.keep K7 (List.mem_cons_self ..) ht7.size, S7⟩
        case measure => simp [intOf]; omega
      · rw [hnb] at NEW
        go_wp2_with fail
        refine NEW.mono ?_; rintro e w7 ⟨y2, rfl, hk7, hb7, ht7, hf7⟩
        obtain ⟨S7, K7⟩ := HS.out.kstep hk7 ht7 hf7
        have HO7 := Lib.hid (Own.keep HO.out K7 (fun k hk => List.mem_cons_of_mem _ hk))
        have HB7 := Lib.hid (HB.out.keep K7 (List.mem_cons_self ..) ht7.size)
        have HS7 := Lib.hid S7
        clear NEW S7 K7 hk7 hb7 ht7 hf7 HO HB HS
        go_wp2_with fail
        refine (s_SlotsOf _ _).mono ?_; rintro e w4 ⟨rfl, rfl⟩
        obtain ⟨m, hm⟩ := Int.eq_ofNat_of_zero_le (slotsOf_bound c).1
        have hm16 : m ≤ 16 := by have := slotsOf_bound c; omega
        have HM := Lib.hid hm
        rw [hm]
        clear hm
        go_wp2_with fail
        (with_reducible refine (s_l02Map B g m hm16 _ HS7.out.cur).mono ?_); rintro e w8 ⟨b0, hb0, rfl, hcur8, hgr8⟩
        obtain ⟨b, rfl⟩ := Int.eq_ofNat_of_zero_le hb0.1
        have hblt : b < 2 ^ (slotsOf c).toNat := by
          have h1 := hb0.2
          rw [HM.out, Int.toNat_natCast]
          have : ((2 : Int) ^ m) = ((2 ^ m : Nat) : Int) := by simp
          omega
        obtain ⟨S8, K8⟩ := HS7.out.draw hgr8 hcur8
        have HO8 := Lib.hid (Own.keep HO7.out K8 (fun k hk => List.mem_cons_of_mem _ hk))
        have HB8 := Lib.hid (HB7.out.keep K8 (List.mem_cons_self ..) hgr8.size)
        have HS8 := Lib.hid S8
        have HI8 := Lib.hid (sinv_new HI.out (by omega) (by omega) hnb hblt)
        have HBL := Lib.hid hblt
        have hcl8 : (mapNewS K n).calls ≤ 2 * n + 1 := by rw [(mapNew_ok HI.out.ok n).2.2]; omega
        have HC8 := Lib.hid hcl8
        clear S8 K8 hgr8 hcur8 hb0 hblt HO7 HB7 HS7 HM hcl8 hcan
        go_wp2_with fail
        (with_reducible refine (s_SpanCells (n : Int) c (b : Int) _).mono ?_); rintro e w9 ⟨vx, rfl, hox, hb9⟩
        obtain ⟨xs, hxs⟩ : ∃ q, q = spanCells (n : Int) c (b : Int) := ⟨_, rfl⟩
        rw [← hxs] at hox
        obtain ⟨xo, xc, rfl, -, -, -⟩ := hox.shape
        have hz9 := hb9.size
        simp only [World.size_alloc] at hz9
        have up9 : Below w8.heap.size w8 w9 := ((Below.refl _ _).alloc (Nat.le_refl _) _).trans (hb9.mono (by simp only [World.size_alloc]; omega))
        have xsz := hox.lts
        simp only [World.size_alloc] at xsz
        have BS : BoxAt w9 w8.heap.size [.int .i64 (n : Int), .int .i64 c, .int .i64 (b : Int)] := by
          have b0 : BoxAt (w8.alloc (.cells #[.int .i64 (n : Int), .int .i64 c, .int .i64 (b : Int)] 49)) w8.heap.size [.int .i64 (n : Int), .int .i64 c, .int .i64 (b : Int)] := BoxAt.snoc (BoxAt.snoc (BoxAt.snoc (BoxAt.nil (by go_simp)) rfl (by go_simp) (by go_simp)) rfl (by go_simp) (by go_simp)) rfl (by go_simp) (by go_simp)
          exact b0.below hb9
        have S9 : DrSt B w w9 g gk y2 (mapNewS K n) (w.heap.size :: (blocks [.slice vo sp.length vc] ++ (w8.heap.size :: blocks [.slice xo xs.length xc]))) := HS8.out.other (S := []) (touch_of_below up9 _) (fun b hb => by cases hb) (fun b hb => by
          rcases List.mem_cons.1 hb with rfl | hb
          · exact .inl (List.mem_cons_self ..)
          · rcases List.mem_append.1 hb with hb | hb
            · exact .inl (List.mem_cons_of_mem _ hb)
            · rcases List.mem_cons.1 hb with rfl | hb
              · exact .inr ⟨Nat.le_refl _, by omega⟩
              · exact .inr ⟨by have := (xsz b hb).1; omega, (xsz b hb).2⟩)
        have HS9 := Lib.hid S9
        have HO9 := Lib.hid (Own.below HO8.out up9)
        have HB9 := Lib.hid (HB8.out.below up9)
        have HBS := Lib.hid BS
        have HX := Lib.hid (Own.mono hox (B' := w.heap.size) (by have := HS8.out.size; simp only [World.size_alloc]; omega))
        have HXS := Lib.hid hxs
        have hw8 : w8.heap.size < w9.heap.size := by omega
        have HZ8 := HS8.out.size
        have hxl : xs.length ≤ 16 := by rw [hxs]; unfold spanCells; split; exact cellsTo_le _ _ _; simp
        clear hox hb9 up9 xsz BS S9 HO8 HB8 HS8 hxs hz9
        generalize w8.heap.size = gs at *
        obtain ⟨K1, hK1⟩ : ∃ q, q = mapNewS K n := ⟨_, rfl⟩
        rw [← hK1] at HI8 HC8 HS9
        clear hK1 HI hnb
        go_wp2_with fail
        go_loopw [11] (fun i wr => ∃ (q : Nat) (y : KV) (K : Ker), q ≤ xs.length ∧ i = .int .i64 (q : Nat) ∧ SInv K (sp ++ [⟨(n : Int), c, (b : Int)⟩]) c (n + 1) ∧ K.calls ≤ 2 * n + 1 ∧ DrSt B w wr g gk y K (w.heap.size :: (blocks [.slice vo sp.length vc] ++ (gs :: blocks [.slice xo xs.length xc]))) ∧ Keep (w.heap.size :: (blocks [.slice vo sp.length vc] ++ (gs :: blocks [.slice xo xs.length xc]))) w9 wr ∧ w9.heap.size ≤ wr.heap.size) (fun i _ => xs.length - (intOf i).toNat)
        case atStart => exact ⟨0, y2, K1, Nat.zero_le _, rfl, HI8.out, HC8.out, HS9.out, fun _ _ => rfl, Nat.le_refl _⟩
        case round =>
          clear HS9 HI8 HC8
          obtain ⟨q, y, K, hq, rfl, hinv, hcl, hst, hkp, hsz⟩ := hrel
          have HS := Lib.hid hst; have HI := Lib.hid hinv; have HK := Lib.hid hkp
          clear hst hinv hkp
          obtain ⟨w1, rfl⟩ : ∃ q, q = wr := ⟨_, rfl⟩
          by_cases hql : q < xs.length
          · have hqI : (q : Int) < (xs.length : Nat) := by omega
            have HQL := Lib.hid hqI
            obtain ⟨xv, hxv⟩ := getx hql
            obtain ⟨jj, hj16, rfl, hjb⟩ := case_cell (pow_slots ⟨hc0, by omega⟩ HBL.out) ⟨hc0, by omega⟩ (by rw [← HXS.out]; exact List.mem_of_getElem? hxv)
            obtain ⟨gx, gxc, he, hgxB, hgxl⟩ := Own.addr HX.out (by omega)
            simp only [Value.slice.injEq] at he
            obtain ⟨rfl, -, rfl⟩ := he
            obtain ⟨-, -, -, ecx⟩ := Own.slot HX.out lenInt hxv
            have mx : gx ∈ w.heap.size :: (blocks [.slice vo sp.length vc] ++ (gs :: blocks [.slice (some ⟨gx, 0, none⟩) xs.length xc])) := List.mem_cons_of_mem _ (List.mem_append_right _ (List.mem_cons_of_mem _ (mem_one rfl)))
            have HCX : Hid (w1.cell? ⟨gx, q, none⟩ = some (.int .i64 (jj : Int))) := Lib.hid ((HK.out.cell mx q).trans (by have := ecx 0 _ rfl; simpa using this))
            have HGX : Hid (gx < w1.heap.size ∧ gx ∉ [g, gk]) := Lib.hid ⟨by omega, fun hm => by
              have h1 := HS.out.ex gx mx; have h2 := HS.out.hg
              simp only [List.mem_cons, List.not_mem_nil, or_false] at hm
              rcases hm with rfl | rfl
              · omega
              · exact h1.2.2.1 rfl⟩
            have HSZ := Lib.hid (mok_sz HI.out.ok)
            have HM1 := Lib.hid (IntWalk.wrap64_in ((n : Int) * 16) (by omega)); have HM2 := Lib.hid (IntWalk.i64_in ((n : Int) * 16) (by omega))
            have HM3 := Lib.hid (IntWalk.wrap64_in ((n : Int) * 16 + (jj : Int)) (by omega)); have HM4 := Lib.hid (IntWalk.i64_in ((n : Int) * 16 + (jj : Int)) (by omega))
            have HXV := Lib.hid hxv; have HJB := Lib.hid hjb
            clear hxv ecx hgxB hgxl mx hjb
            go_upto_region 13 with fail
            refine wp_gen (fun a0 ha0 => ?_)
            have hsz : a0.tmps.size = 70 := by rw [ha0]; rfl
            have X0 : ∀ u, (frAll a0 [44, 45, 46, 47, 48, 49, 50, 51, 52, 53, 54, 55, 56, 43, 57, 58, 59] u).tmps.getD 0 undef = .pointer (some ⟨g, 0, none⟩) := fun u => (frAll_other (by decide)).trans (by rw [ha0]; rfl)
            have X4 : ∀ u, (frAll a0 [44, 45, 46, 47, 48, 49, 50, 51, 52, 53, 54, 55, 56, 43, 57, 58, 59] u).tmps.getD 4 undef = .pointer (some ⟨gk, 0, none⟩) := fun u => (frAll_other (by decide)).trans (by rw [ha0]; rfl)
            have X8 : ∀ u, (frAll a0 [44, 45, 46, 47, 48, 49, 50, 51, 52, 53, 54, 55, 56, 43, 57, 58, 59] u).tmps.getD 8 undef = .int .i64 (n : Int) := fun u => (frAll_other (by decide)).trans (by rw [ha0]; rfl)
            have X10 : ∀ u, (frAll a0 [44, 45, 46, 47, 48, 49, 50, 51, 52, 53, 54, 55, 56, 43, 57, 58, 59] u).tmps.getD 10 undef = .slice (some ⟨gx, 0, none⟩) xs.length xc := fun u => (frAll_other (by decide)).trans (by rw [ha0]; rfl)
            have X11 : ∀ u, (frAll a0 [44, 45, 46, 47, 48, 49, 50, 51, 52, 53, 54, 55, 56, 43, 57, 58, 59] u).tmps.getD 11 undef = .int .i64 (q : Int) := fun u => (frAll_other (by decide)).trans (by rw [ha0]; rfl)
            have E44 : ∀ u, (frAll a0 [44, 45, 46, 47, 48, 49, 50, 51, 52, 53, 54, 55, 56, 43, 57, 58, 59] u).tmps.getD 44 undef = u 44 := fun u => frAll_eval (by decide) (by rw [hsz]; decide)
            have P44 : ∀ u v, (frAll a0 [44, 45, 46, 47, 48, 49, 50, 51, 52, 53, 54, 55, 56, 43, 57, 58, 59] u).put (some 44) v = frAll a0 [44, 45, 46, 47, 48, 49, 50, 51, 52, 53, 54, 55, 56, 43, 57, 58, 59] (frUpd u 44 v) := fun u v => frAll_put v (by decide)
            have E45 : ∀ u, (frAll a0 [44, 45, 46, 47, 48, 49, 50, 51, 52, 53, 54, 55, 56, 43, 57, 58, 59] u).tmps.getD 45 undef = u 45 := fun u => frAll_eval (by decide) (by rw [hsz]; decide)
            have P45 : ∀ u v, (frAll a0 [44, 45, 46, 47, 48, 49, 50, 51, 52, 53, 54, 55, 56, 43, 57, 58, 59] u).put (some 45) v = frAll a0 [44, 45, 46, 47, 48, 49, 50, 51, 52, 53, 54, 55, 56, 43, 57, 58, 59] (frUpd u 45 v) := fun u v => frAll_put v (by decide)
            have E46 : ∀ u, (frAll a0 [44, 45, 46, 47, 48, 49, 50, 51, 52, 53, 54, 55, 56, 43, 57, 58, 59] u).tmps.getD 46 undef = u 46 := fun u => frAll_eval (by decide) (by rw [hsz]; decide)
            have P46 : ∀ u v, (frAll a0 [44, 45, 46, 47, 48, 49, 50, 51, 52, 53, 54, 55, 56, 43, 57, 58, 59] u).put (some 46) v = frAll a0 [44, 45, 46, 47, 48, 49, 50, 51, 52, 53, 54, 55, 56, 43, 57, 58, 59] (frUpd u 46 v) := fun u v => frAll_put v (by decide)
            have E47 : ∀ u, (frAll a0 [44, 45, 46, 47, 48, 49, 50, 51, 52, 53, 54, 55, 56, 43, 57, 58, 59] u).tmps.getD 47 undef = u 47 := fun u => frAll_eval (by decide) (by rw [hsz]; decide)
            have P47 : ∀ u v, (frAll a0 [44, 45, 46, 47, 48, 49, 50, 51, 52, 53, 54, 55, 56, 43, 57, 58, 59] u).put (some 47) v = frAll a0 [44, 45, 46, 47, 48, 49, 50, 51, 52, 53, 54, 55, 56, 43, 57, 58, 59] (frUpd u 47 v) := fun u v => frAll_put v (by decide)
            have E48 : ∀ u, (frAll a0 [44, 45, 46, 47, 48, 49, 50, 51, 52, 53, 54, 55, 56, 43, 57, 58, 59] u).tmps.getD 48 undef = u 48 := fun u => frAll_eval (by decide) (by rw [hsz]; decide)
            have P48 : ∀ u v, (frAll a0 [44, 45, 46, 47, 48, 49, 50, 51, 52, 53, 54, 55, 56, 43, 57, 58, 59] u).put (some 48) v = frAll a0 [44, 45, 46, 47, 48, 49, 50, 51, 52, 53, 54, 55, 56, 43, 57, 58, 59] (frUpd u 48 v) := fun u v => frAll_put v (by decide)
            have E49 : ∀ u, (frAll a0 [44, 45, 46, 47, 48, 49, 50, 51, 52, 53, 54, 55, 56, 43, 57, 58, 59] u).tmps.getD 49 undef = u 49 := fun u => frAll_eval (by decide) (by rw [hsz]; decide)
            have P49 : ∀ u v, (frAll a0 [44, 45, 46, 47, 48, 49, 50, 51, 52, 53, 54, 55, 56, 43, 57, 58, 59] u).put (some 49) v = frAll a0 [44, 45, 46, 47, 48, 49, 50, 51, 52, 53, 54, 55, 56, 43, 57, 58, 59] (frUpd u 49 v) := fun u v => frAll_put v (by decide)
            have E50 : ∀ u, (frAll a0 [44, 45, 46, 47, 48, 49, 50, 51, 52, 53, 54, 55, 56, 43, 57, 58, 59] u).tmps.getD 50 undef = u 50 := fun u => frAll_eval (by decide) (by rw [hsz]; decide)
            have P50 : ∀ u v, (frAll a0 [44, 45, 46, 47, 48, 49, 50, 51, 52, 53, 54, 55, 56, 43, 57, 58, 59] u).put (some 50) v = frAll a0 [44, 45, 46, 47, 48, 49, 50, 51, 52, 53, 54, 55, 56, 43, 57, 58, 59] (frUpd u 50 v) := fun u v => frAll_put v (by decide)
            have E51 : ∀ u, (frAll a0 [44, 45, 46, 47, 48, 49, 50, 51, 52, 53, 54, 55, 56, 43, 57, 58, 59] u).tmps.getD 51 undef = u 51 := fun u => frAll_eval (by decide) (by rw [hsz]; decide)
            have P51 : ∀ u v, (frAll a0 [44, 45, 46, 47, 48, 49, 50, 51, 52, 53, 54, 55, 56, 43, 57, 58, 59] u).put (some 51) v = frAll a0 [44, 45, 46, 47, 48, 49, 50, 51, 52, 53, 54, 55, 56, 43, 57, 58, 59] (frUpd u 51 v) := fun u v => frAll_put v (by decide)
            have E52 : ∀ u, (frAll a0 [44, 45, 46, 47, 48, 49, 50, 51, 52, 53, 54, 55, 56, 43, 57, 58, 59] u).tmps.getD 52 undef = u 52 := fun u => frAll_eval (by decide) (by rw [hsz]; decide)
            have P52 : ∀ u v, (frAll a0 [44, 45, 46, 47, 48, 49, 50, 51, 52, 53, 54, 55, 56, 43, 57, 58, 59] u).put (some 52) v = frAll a0 [44, 45, 46, 47, 48, 49, 50, 51, 52, 53, 54, 55, 56, 43, 57, 58, 59] (frUpd u 52 v) := fun u v => frAll_put v (by decide)
            have E53 : ∀ u, (frAll a0 [44, 45, 46, 47, 48, 49, 50, 51, 52, 53, 54, 55, 56, 43, 57, 58, 59] u).tmps.getD 53 undef = u 53 := fun u => frAll_eval (by decide) (by rw [hsz]; decide)
            have P53 : ∀ u v, (frAll a0 [44, 45, 46, 47, 48, 49, 50, 51, 52, 53, 54, 55, 56, 43, 57, 58, 59] u).put (some 53) v = frAll a0 [44, 45, 46, 47, 48, 49, 50, 51, 52, 53, 54, 55, 56, 43, 57, 58, 59] (frUpd u 53 v) := fun u v => frAll_put v (by decide)
            have E54 : ∀ u, (frAll a0 [44, 45, 46, 47, 48, 49, 50, 51, 52, 53, 54, 55, 56, 43, 57, 58, 59] u).tmps.getD 54 undef = u 54 := fun u => frAll_eval (by decide) (by rw [hsz]; decide)
            have P54 : ∀ u v, (frAll a0 [44, 45, 46, 47, 48, 49, 50, 51, 52, 53, 54, 55, 56, 43, 57, 58, 59] u).put (some 54) v = frAll a0 [44, 45, 46, 47, 48, 49, 50, 51, 52, 53, 54, 55, 56, 43, 57, 58, 59] (frUpd u 54 v) := fun u v => frAll_put v (by decide)
            have E55 : ∀ u, (frAll a0 [44, 45, 46, 47, 48, 49, 50, 51, 52, 53, 54, 55, 56, 43, 57, 58, 59] u).tmps.getD 55 undef = u 55 := fun u => frAll_eval (by decide) (by rw [hsz]; decide)
            have P55 : ∀ u v, (frAll a0 [44, 45, 46, 47, 48, 49, 50, 51, 52, 53, 54, 55, 56, 43, 57, 58, 59] u).put (some 55) v = frAll a0 [44, 45, 46, 47, 48, 49, 50, 51, 52, 53, 54, 55, 56, 43, 57, 58, 59] (frUpd u 55 v) := fun u v => frAll_put v (by decide)
            have E56 : ∀ u, (frAll a0 [44, 45, 46, 47, 48, 49, 50, 51, 52, 53, 54, 55, 56, 43, 57, 58, 59] u).tmps.getD 56 undef = u 56 := fun u => frAll_eval (by decide) (by rw [hsz]; decide)
            have P56 : ∀ u v, (frAll a0 [44, 45, 46, 47, 48, 49, 50, 51, 52, 53, 54, 55, 56, 43, 57, 58, 59] u).put (some 56) v = frAll a0 [44, 45, 46, 47, 48, 49, 50, 51, 52, 53, 54, 55, 56, 43, 57, 58, 59] (frUpd u 56 v) := fun u v => frAll_put v (by decide)
            have E43 : ∀ u, (frAll a0 [44, 45, 46, 47, 48, 49, 50, 51, 52, 53, 54, 55, 56, 43, 57, 58, 59] u).tmps.getD 43 undef = u 43 := fun u => frAll_eval (by decide) (by rw [hsz]; decide)
            have P43 : ∀ u v, (frAll a0 [44, 45, 46, 47, 48, 49, 50, 51, 52, 53, 54, 55, 56, 43, 57, 58, 59] u).put (some 43) v = frAll a0 [44, 45, 46, 47, 48, 49, 50, 51, 52, 53, 54, 55, 56, 43, 57, 58, 59] (frUpd u 43 v) := fun u v => frAll_put v (by decide)
            have E57 : ∀ u, (frAll a0 [44, 45, 46, 47, 48, 49, 50, 51, 52, 53, 54, 55, 56, 43, 57, 58, 59] u).tmps.getD 57 undef = u 57 := fun u => frAll_eval (by decide) (by rw [hsz]; decide)
            have P57 : ∀ u v, (frAll a0 [44, 45, 46, 47, 48, 49, 50, 51, 52, 53, 54, 55, 56, 43, 57, 58, 59] u).put (some 57) v = frAll a0 [44, 45, 46, 47, 48, 49, 50, 51, 52, 53, 54, 55, 56, 43, 57, 58, 59] (frUpd u 57 v) := fun u v => frAll_put v (by decide)
            have E58 : ∀ u, (frAll a0 [44, 45, 46, 47, 48, 49, 50, 51, 52, 53, 54, 55, 56, 43, 57, 58, 59] u).tmps.getD 58 undef = u 58 := fun u => frAll_eval (by decide) (by rw [hsz]; decide)
            have P58 : ∀ u v, (frAll a0 [44, 45, 46, 47, 48, 49, 50, 51, 52, 53, 54, 55, 56, 43, 57, 58, 59] u).put (some 58) v = frAll a0 [44, 45, 46, 47, 48, 49, 50, 51, 52, 53, 54, 55, 56, 43, 57, 58, 59] (frUpd u 58 v) := fun u v => frAll_put v (by decide)
            have E59 : ∀ u, (frAll a0 [44, 45, 46, 47, 48, 49, 50, 51, 52, 53, 54, 55, 56, 43, 57, 58, 59] u).tmps.getD 59 undef = u 59 := fun u => frAll_eval (by decide) (by rw [hsz]; decide)
            have P59 : ∀ u v, (frAll a0 [44, 45, 46, 47, 48, 49, 50, 51, 52, 53, 54, 55, 56, 43, 57, 58, 59] u).put (some 59) v = frAll a0 [44, 45, 46, 47, 48, 49, 50, 51, 52, 53, 54, 55, 56, 43, 57, 58, 59] (frUpd u 59 v) := fun u v => frAll_put v (by decide)
            replace ha0 := Lib.hid ha0
            have HN1 : Hid (gk ∉ [g]) := Lib.hid (fun hm => HS.out.gne.1 (List.mem_singleton.1 hm).symm)
            have HN2 : Hid (∀ b ∈ blocks y.all, b ∉ [g]) := Lib.hid (fun b hb hm => HS.out.gne.2.1 (by rw [← List.mem_singleton.1 hm]; exact hb))
            refine wp_region_frame [44, 45, 46, 47, 48, 49, 50, 51, 52, 53, 54, 55, 56, 43, 57, 58, 59] (fun D u wv => ∃ (x : Int) (yco : Option Addr) (ycc : Nat) (yuo : Option Addr) (yuc : Nat) (yvs : List Value) (yeo : Option Addr) (yec : Nat), Hid (D 0 → u 44 = .pointer (some ⟨gk, 0, none⟩)) ∧ Hid (D 1 → u 45 = .agg #[y.m.f.c, y.m.f.u, y.m.e]) ∧ Hid (D 2 → u 46 = .int .i64 (n : Int)) ∧ Hid (D 3 → u 47 = .int .i64 ((n : Int) * 16)) ∧ Hid (D 4 → u 48 = .slice (some ⟨gx, 0, none⟩) xs.length xc) ∧ Hid (D 5 → u 49 = .int .i64 (q : Int)) ∧ Hid (D 6 → u 50 = .pointer (some ⟨gx, q, none⟩)) ∧ Hid (D 7 → u 51 = .int .i64 (jj : Int)) ∧ Hid (D 8 → u 52 = .int .i64 ((n : Int) * 16 + (jj : Int))) ∧ Hid (D 9 → u 53 = .pointer (some ⟨g, 0, none⟩)) ∧ Hid (D 10 → u 54 = .int .i64 x) ∧ Hid (D 11 → u 55 = .int .i64 (1 + x)) ∧ Hid (D 12 → u 56 = .tuple #[.agg #[.slice yco yvs.length ycc, .slice yuo (storeM K.m ((n : Int) * 16 + (jj : Int)) (1 + x)).f.used.length yuc, .slice yeo (storeM K.m ((n : Int) * 16 + (jj : Int)) (1 + x)).ents.length yec], .int .i64 (storeF K.m ((n : Int) * 16 + (jj : Int)) (1 + x))]) ∧ Hid (D 13 → u 43 = .tuple #[.agg #[.slice yco yvs.length ycc, .slice yuo (storeM K.m ((n : Int) * 16 + (jj : Int)) (1 + x)).f.used.length yuc, .slice yeo (storeM K.m ((n : Int) * 16 + (jj : Int)) (1 + x)).ents.length yec], .int .i64 (storeF K.m ((n : Int) * 16 + (jj : Int)) (1 + x))]) ∧ Hid (D 14 → u 57 = .agg #[.slice yco yvs.length ycc, .slice yuo (storeM K.m ((n : Int) * 16 + (jj : Int)) (1 + x)).f.used.length yuc, .slice yeo (storeM K.m ((n : Int) * 16 + (jj : Int)) (1 + x)).ents.length yec]) ∧ Hid (D 15 → u 58 = .int .i64 (storeF K.m ((n : Int) * 16 + (jj : Int)) (1 + x))) ∧ Hid (D 16 → u 59 = .pointer (some ⟨gk, 0, none⟩)) ∧ Hid (¬ D 17 → Touch [g] w1 wv) ∧ Hid (Touch [g, gk] w1 wv) ∧ Hid (Cur B wv g) ∧ Hid (D 12 → MOwn w1.heap.size wv ⟨⟨.slice yco yvs.length ycc, .slice yuo (storeM K.m ((n : Int) * 16 + (jj : Int)) (1 + x)).f.used.length yuc, yvs⟩, .slice yeo (storeM K.m ((n : Int) * 16 + (jj : Int)) (1 + x)).ents.length yec⟩ (storeM K.m ((n : Int) * 16 + (jj : Int)) (1 + x))) ∧ Hid (D 10 → 0 ≤ x ∧ x < 999) ∧ Hid (D 17 → KIn w.heap.size wv gk ⟨⟨⟨.slice yco yvs.length ycc, .slice yuo (storeM K.m ((n : Int) * 16 + (jj : Int)) (1 + x)).f.used.length yuc, yvs⟩, .slice yeo (storeM K.m ((n : Int) * 16 + (jj : Int)) (1 + x)).ents.length yec⟩, y.r⟩ ⟨(storeM K.m ((n : Int) * 16 + (jj : Int)) (1 + x)), K.calls, K.refuse⟩)) (by kernel_rfl) (by kernel_rfl) ?_ ?_ ?_
            · exact ⟨default, default, default, default, default, default, default, default, Lib.hid (fun h => h.elim), Lib.hid (fun h => h.elim), Lib.hid (fun h => h.elim), Lib.hid (fun h => h.elim), Lib.hid (fun h => h.elim), Lib.hid (fun h => h.elim), Lib.hid (fun h => h.elim), Lib.hid (fun h => h.elim), Lib.hid (fun h => h.elim), Lib.hid (fun h => h.elim), Lib.hid (fun h => h.elim), Lib.hid (fun h => h.elim), Lib.hid (fun h => h.elim), Lib.hid (fun h => h.elim), Lib.hid (fun h => h.elim), Lib.hid (fun h => h.elim), Lib.hid (fun h => h.elim), Lib.hid (fun _ => touch_of_below (Below.drew (Below.refl _ _)) _), Lib.hid (touch_of_below (Below.drew (Below.refl _ _)) _), Lib.hid (HS.out.cur.below (Below.drew (Below.refl _ _))), Lib.hid (fun h => h.elim), Lib.hid (fun h => h.elim), Lib.hid (fun h => h.elim)⟩
            · rintro D u wv ⟨x, yco, ycc, yuo, yuc, yvs, yeo, yec, U0, U1, U2, U3, U4, U5, U6, U7, U8, U9, U10, U11, U12, U13, U14, U15, U16, F1, F2, F3, F4, F5, F6⟩ hcl i hi hn hw
              have hi9 : i < 18 := hi; clear hi
              replace hcl := Lib.hid hcl; replace hw := Lib.hid hw
              rcases (by omega : i = 0 ∨ i = 1 ∨ i = 2 ∨ i = 3 ∨ i = 4 ∨ i = 5 ∨ i = 6 ∨ i = 7 ∨ i = 8 ∨ i = 9 ∨ i = 10 ∨ i = 11 ∨ i = 12 ∨ i = 13 ∨ i = 14 ∨ i = 15 ∨ i = 16 ∨ i = 17) with rfl | rfl | rfl | rfl | rfl | rfl | rfl | rfl | rfl | rfl | rfl | rfl | rfl | rfl | rfl | rfl | rfl | rfl
              · skip
                refine wpOp_step (o := _) rfl (fun KK hKK => ?_)
                rw [if_pos (wanted_nil _ rfl)]
                have E4_ := X4 u
                go_simp
                exact hKK _ _ ⟨_, P44 u _, x, yco, ycc, yuo, yuc, yvs, yeo, yec, Lib.hid (fun _ => frUpd_self), (_root_.Go.Proofs.Ytobechjagckdfaa.u10 U1), (_root_.Go.Proofs.Ytobechjagckdfaa.u10 U2), (_root_.Go.Proofs.Ytobechjagckdfaa.u10 U3), (_root_.Go.Proofs.Ytobechjagckdfaa.u10 U4), (_root_.Go.Proofs.Ytobechjagckdfaa.u10 U5), (_root_.Go.Proofs.Ytobechjagckdfaa.u10 U6), (_root_.Go.Proofs.Ytobechjagckdfaa.u10 U7), (_root_.Go.Proofs.Ytobechjagckdfaa.u10 U8), (_root_.Go.Proofs.Ytobechjagckdfaa.u10 U9), (_root_.Go.Proofs.Ytobechjagckdfaa.u10 U10), (_root_.Go.Proofs.Ytobechjagckdfaa.u10 U11), (_root_.Go.Proofs.Ytobechjagckdfaa.u10 U12), (_root_.Go.Proofs.Ytobechjagckdfaa.u10 U13), (_root_.Go.Proofs.Ytobechjagckdfaa.u10 U14), (_root_.Go.Proofs.Ytobechjagckdfaa.u10 U15), (_root_.Go.Proofs.Ytobechjagckdfaa.u10 U16), Lib.hid (fun m => F1.out (fun h => m (addD_mem h))), F2, F3, (_root_.Go.Proofs.Ytobechjagckdfaa.k10 F4), (_root_.Go.Proofs.Ytobechjagckdfaa.k10 F5), (_root_.Go.Proofs.Ytobechjagckdfaa.k10 F6)⟩
              · skip
                refine wpOp_step (o := _) rfl (fun KK hKK => ?_)
                rw [if_pos (wanted_nil _ rfl)]
                have hz : ¬ D 17 := fun h => hn (hcl.out 12 1 (by kernel_rfl) (hcl.out 13 12 (by kernel_rfl) (hcl.out 14 13 (by kernel_rfl) (hcl.out 17 14 (by kernel_rfl) h))))
                have KI : Hid (KIn w.heap.size wv gk y K) := Lib.hid (HS.out.kin.touchN (F1.out hz) HN1.out HN2.out)
                have hbx := KI.out.box
                have c0 := hbx.c0; have c1 := hbx.c1; have c2 := hbx.c2
                have e44 := U0.out (hw.out 0 (by kernel_rfl)); have E44_ := (E44 u).trans e44
                go_simp
                exact hKK _ _ ⟨_, P45 u _, x, yco, ycc, yuo, yuc, yvs, yeo, yec, (_root_.Go.Proofs.Ytobechjagckdfaa.u10 U0), Lib.hid (fun _ => frUpd_self), (_root_.Go.Proofs.Ytobechjagckdfaa.u10 U2), (_root_.Go.Proofs.Ytobechjagckdfaa.u10 U3), (_root_.Go.Proofs.Ytobechjagckdfaa.u10 U4), (_root_.Go.Proofs.Ytobechjagckdfaa.u10 U5), (_root_.Go.Proofs.Ytobechjagckdfaa.u10 U6), (_root_.Go.Proofs.Ytobechjagckdfaa.u10 U7), (_root_.Go.Proofs.Ytobechjagckdfaa.u10 U8), (_root_.Go.Proofs.Ytobechjagckdfaa.u10 U9), (_root_.Go.Proofs.Ytobechjagckdfaa.u10 U10), (_root_.Go.Proofs.Ytobechjagckdfaa.u10 U11), (_root_.Go.Proofs.Ytobechjagckdfaa.u10 U12), (_root_.Go.Proofs.Ytobechjagckdfaa.u10 U13), (_root_.Go.Proofs.Ytobechjagckdfaa.u10 U14), (_root_.Go.Proofs.Ytobechjagckdfaa.u10 U15), (_root_.Go.Proofs.Ytobechjagckdfaa.u10 U16), Lib.hid (fun m => F1.out (fun h => m (addD_mem h))), F2, F3, (_root_.Go.Proofs.Ytobechjagckdfaa.k10 F4), (_root_.Go.Proofs.Ytobechjagckdfaa.k10 F5), (_root_.Go.Proofs.Ytobechjagckdfaa.k10 F6)⟩
              · skip
                refine wpOp_step (o := _) rfl (fun KK hKK => ?_)
                rw [if_pos (wanted_nil _ rfl)]
                have E8_ := X8 u
                go_simp
                exact hKK _ _ ⟨_, P46 u _, x, yco, ycc, yuo, yuc, yvs, yeo, yec, (_root_.Go.Proofs.Ytobechjagckdfaa.u10 U0), (_root_.Go.Proofs.Ytobechjagckdfaa.u10 U1), Lib.hid (fun _ => frUpd_self), (_root_.Go.Proofs.Ytobechjagckdfaa.u10 U3), (_root_.Go.Proofs.Ytobechjagckdfaa.u10 U4), (_root_.Go.Proofs.Ytobechjagckdfaa.u10 U5), (_root_.Go.Proofs.Ytobechjagckdfaa.u10 U6), (_root_.Go.Proofs.Ytobechjagckdfaa.u10 U7), (_root_.Go.Proofs.Ytobechjagckdfaa.u10 U8), (_root_.Go.Proofs.Ytobechjagckdfaa.u10 U9), (_root_.Go.Proofs.Ytobechjagckdfaa.u10 U10), (_root_.Go.Proofs.Ytobechjagckdfaa.u10 U11), (_root_.Go.Proofs.Ytobechjagckdfaa.u10 U12), (_root_.Go.Proofs.Ytobechjagckdfaa.u10 U13), (_root_.Go.Proofs.Ytobechjagckdfaa.u10 U14), (_root_.Go.Proofs.Ytobechjagckdfaa.u10 U15), (_root_.Go.Proofs.Ytobechjagckdfaa.u10 U16), Lib.hid (fun m => F1.out (fun h => m (addD_mem h))), F2, F3, (_root_.Go.Proofs.Ytobechjagckdfaa.k10 F4), (_root_.Go.Proofs.Ytobechjagckdfaa.k10 F5), (_root_.Go.Proofs.Ytobechjagckdfaa.k10 F6)⟩
              · skip
                refine wpOp_step (o := _) rfl (fun KK hKK => ?_)
                rw [if_pos (wanted_nil _ rfl)]
                have e46 := U2.out (hw.out 2 (by kernel_rfl)); have E46_ := (E46 u).trans e46
                have m1 := HM1.out; have m2 := HM2.out
                go_simp
                exact hKK _ _ ⟨_, P47 u _, x, yco, ycc, yuo, yuc, yvs, yeo, yec, (_root_.Go.Proofs.Ytobechjagckdfaa.u10 U0), (_root_.Go.Proofs.Ytobechjagckdfaa.u10 U1), (_root_.Go.Proofs.Ytobechjagckdfaa.u10 U2), Lib.hid (fun _ => frUpd_self), (_root_.Go.Proofs.Ytobechjagckdfaa.u10 U4), (_root_.Go.Proofs.Ytobechjagckdfaa.u10 U5), (_root_.Go.Proofs.Ytobechjagckdfaa.u10 U6), (_root_.Go.Proofs.Ytobechjagckdfaa.u10 U7), (_root_.Go.Proofs.Ytobechjagckdfaa.u10 U8), (_root_.Go.Proofs.Ytobechjagckdfaa.u10 U9), (_root_.Go.Proofs.Ytobechjagckdfaa.u10 U10), (_root_.Go.Proofs.Ytobechjagckdfaa.u10 U11), (_root_.Go.Proofs.Ytobechjagckdfaa.u10 U12), (_root_.Go.Proofs.Ytobechjagckdfaa.u10 U13), (_root_.Go.Proofs.Ytobechjagckdfaa.u10 U14), (_root_.Go.Proofs.Ytobechjagckdfaa.u10 U15), (_root_.Go.Proofs.Ytobechjagckdfaa.u10 U16), Lib.hid (fun m => F1.out (fun h => m (addD_mem h))), F2, F3, (_root_.Go.Proofs.Ytobechjagckdfaa.k10 F4), (_root_.Go.Proofs.Ytobechjagckdfaa.k10 F5), (_root_.Go.Proofs.Ytobechjagckdfaa.k10 F6)⟩
              · skip
                refine wpOp_step (o := _) rfl (fun KK hKK => ?_)
                rw [if_pos (wanted_nil _ rfl)]
                have E10_ := X10 u
                go_simp
                exact hKK _ _ ⟨_, P48 u _, x, yco, ycc, yuo, yuc, yvs, yeo, yec, (_root_.Go.Proofs.Ytobechjagckdfaa.u10 U0), (_root_.Go.Proofs.Ytobechjagckdfaa.u10 U1), (_root_.Go.Proofs.Ytobechjagckdfaa.u10 U2), (_root_.Go.Proofs.Ytobechjagckdfaa.u10 U3), Lib.hid (fun _ => frUpd_self), (_root_.Go.Proofs.Ytobechjagckdfaa.u10 U5), (_root_.Go.Proofs.Ytobechjagckdfaa.u10 U6), (_root_.Go.Proofs.Ytobechjagckdfaa.u10 U7), (_root_.Go.Proofs.Ytobechjagckdfaa.u10 U8), (_root_.Go.Proofs.Ytobechjagckdfaa.u10 U9), (_root_.Go.Proofs.Ytobechjagckdfaa.u10 U10), (_root_.Go.Proofs.Ytobechjagckdfaa.u10 U11), (_root_.Go.Proofs.Ytobechjagckdfaa.u10 U12), (_root_.Go.Proofs.Ytobechjagckdfaa.u10 U13), (_root_.Go.Proofs.Ytobechjagckdfaa.u10 U14), (_root_.Go.Proofs.Ytobechjagckdfaa.u10 U15), (_root_.Go.Proofs.Ytobechjagckdfaa.u10 U16), Lib.hid (fun m => F1.out (fun h => m (addD_mem h))), F2, F3, (_root_.Go.Proofs.Ytobechjagckdfaa.k10 F4), (_root_.Go.Proofs.Ytobechjagckdfaa.k10 F5), (_root_.Go.Proofs.Ytobechjagckdfaa.k10 F6)⟩
              · skip
                refine wpOp_step (o := _) rfl (fun KK hKK => ?_)
                rw [if_pos (wanted_nil _ rfl)]
                have E11_ := X11 u
                go_simp
                exact hKK _ _ ⟨_, P49 u _, x, yco, ycc, yuo, yuc, yvs, yeo, yec, (_root_.Go.Proofs.Ytobechjagckdfaa.u10 U0), (_root_.Go.Proofs.Ytobechjagckdfaa.u10 U1), (_root_.Go.Proofs.Ytobechjagckdfaa.u10 U2), (_root_.Go.Proofs.Ytobechjagckdfaa.u10 U3), (_root_.Go.Proofs.Ytobechjagckdfaa.u10 U4), Lib.hid (fun _ => frUpd_self), (_root_.Go.Proofs.Ytobechjagckdfaa.u10 U6), (_root_.Go.Proofs.Ytobechjagckdfaa.u10 U7), (_root_.Go.Proofs.Ytobechjagckdfaa.u10 U8), (_root_.Go.Proofs.Ytobechjagckdfaa.u10 U9), (_root_.Go.Proofs.Ytobechjagckdfaa.u10 U10), (_root_.Go.Proofs.Ytobechjagckdfaa.u10 U11), (_root_.Go.Proofs.Ytobechjagckdfaa.u10 U12), (_root_.Go.Proofs.Ytobechjagckdfaa.u10 U13), (_root_.Go.Proofs.Ytobechjagckdfaa.u10 U14), (_root_.Go.Proofs.Ytobechjagckdfaa.u10 U15), (_root_.Go.Proofs.Ytobechjagckdfaa.u10 U16), Lib.hid (fun m => F1.out (fun h => m (addD_mem h))), F2, F3, (_root_.Go.Proofs.Ytobechjagckdfaa.k10 F4), (_root_.Go.Proofs.Ytobechjagckdfaa.k10 F5), (_root_.Go.Proofs.Ytobechjagckdfaa.k10 F6)⟩
              · skip
                refine wpOp_step (o := _) rfl (fun KK hKK => ?_)
                rw [if_pos (wanted_nil _ rfl)]
                have e48 := U4.out (hw.out 4 (by kernel_rfl)); have E48_ := (E48 u).trans e48
                have e49 := U5.out (hw.out 5 (by kernel_rfl)); have E49_ := (E49 u).trans e49
                have b1 := HQL.out
                go_simp
                exact hKK _ _ ⟨_, P50 u _, x, yco, ycc, yuo, yuc, yvs, yeo, yec, (_root_.Go.Proofs.Ytobechjagckdfaa.u10 U0), (_root_.Go.Proofs.Ytobechjagckdfaa.u10 U1), (_root_.Go.Proofs.Ytobechjagckdfaa.u10 U2), (_root_.Go.Proofs.Ytobechjagckdfaa.u10 U3), (_root_.Go.Proofs.Ytobechjagckdfaa.u10 U4), (_root_.Go.Proofs.Ytobechjagckdfaa.u10 U5), Lib.hid (fun _ => frUpd_self), (_root_.Go.Proofs.Ytobechjagckdfaa.u10 U7), (_root_.Go.Proofs.Ytobechjagckdfaa.u10 U8), (_root_.Go.Proofs.Ytobechjagckdfaa.u10 U9), (_root_.Go.Proofs.Ytobechjagckdfaa.u10 U10), (_root_.Go.Proofs.Ytobechjagckdfaa.u10 U11), (_root_.Go.Proofs.Ytobechjagckdfaa.u10 U12), (_root_.Go.Proofs.Ytobechjagckdfaa.u10 U13), (_root_.Go.Proofs.Ytobechjagckdfaa.u10 U14), (_root_.Go.Proofs.Ytobechjagckdfaa.u10 U15), (_root_.Go.Proofs.Ytobechjagckdfaa.u10 U16), Lib.hid (fun m => F1.out (fun h => m (addD_mem h))), F2, F3, (_root_.Go.Proofs.Ytobechjagckdfaa.k10 F4), (_root_.Go.Proofs.Ytobechjagckdfaa.k10 F5), (_root_.Go.Proofs.Ytobechjagckdfaa.k10 F6)⟩
              · skip
                refine wpOp_step (o := _) rfl (fun KK hKK => ?_)
                rw [if_pos (wanted_nil _ rfl)]
                have e50 := U6.out (hw.out 6 (by kernel_rfl)); have E50_ := (E50 u).trans e50
                have cx : wv.cell? ⟨gx, q, none⟩ = some (.int .i64 (jj : Int)) := (F2.out.cell HGX.out.1 HGX.out.2).trans HCX.out
                go_simp
                exact hKK _ _ ⟨_, P51 u _, x, yco, ycc, yuo, yuc, yvs, yeo, yec, (_root_.Go.Proofs.Ytobechjagckdfaa.u10 U0), (_root_.Go.Proofs.Ytobechjagckdfaa.u10 U1), (_root_.Go.Proofs.Ytobechjagckdfaa.u10 U2), (_root_.Go.Proofs.Ytobechjagckdfaa.u10 U3), (_root_.Go.Proofs.Ytobechjagckdfaa.u10 U4), (_root_.Go.Proofs.Ytobechjagckdfaa.u10 U5), (_root_.Go.Proofs.Ytobechjagckdfaa.u10 U6), Lib.hid (fun _ => frUpd_self), (_root_.Go.Proofs.Ytobechjagckdfaa.u10 U8), (_root_.Go.Proofs.Ytobechjagckdfaa.u10 U9), (_root_.Go.Proofs.Ytobechjagckdfaa.u10 U10), (_root_.Go.Proofs.Ytobechjagckdfaa.u10 U11), (_root_.Go.Proofs.Ytobechjagckdfaa.u10 U12), (_root_.Go.Proofs.Ytobechjagckdfaa.u10 U13), (_root_.Go.Proofs.Ytobechjagckdfaa.u10 U14), (_root_.Go.Proofs.Ytobechjagckdfaa.u10 U15), (_root_.Go.Proofs.Ytobechjagckdfaa.u10 U16), Lib.hid (fun m => F1.out (fun h => m (addD_mem h))), F2, F3, (_root_.Go.Proofs.Ytobechjagckdfaa.k10 F4), (_root_.Go.Proofs.Ytobechjagckdfaa.k10 F5), (_root_.Go.Proofs.Ytobechjagckdfaa.k10 F6)⟩
              · skip
                refine wpOp_step (o := _) rfl (fun KK hKK => ?_)
                rw [if_pos (wanted_nil _ rfl)]
                have e47 := U3.out (hw.out 3 (by kernel_rfl)); have E47_ := (E47 u).trans e47
                have e51 := U7.out (hw.out 7 (by kernel_rfl)); have E51_ := (E51 u).trans e51
                have m1 := HM3.out; have m2 := HM4.out
                go_simp
                exact hKK _ _ ⟨_, P52 u _, x, yco, ycc, yuo, yuc, yvs, yeo, yec, (_root_.Go.Proofs.Ytobechjagckdfaa.u10 U0), (_root_.Go.Proofs.Ytobechjagckdfaa.u10 U1), (_root_.Go.Proofs.Ytobechjagckdfaa.u10 U2), (_root_.Go.Proofs.Ytobechjagckdfaa.u10 U3), (_root_.Go.Proofs.Ytobechjagckdfaa.u10 U4), (_root_.Go.Proofs.Ytobechjagckdfaa.u10 U5), (_root_.Go.Proofs.Ytobechjagckdfaa.u10 U6), (_root_.Go.Proofs.Ytobechjagckdfaa.u10 U7), Lib.hid (fun _ => frUpd_self), (_root_.Go.Proofs.Ytobechjagckdfaa.u10 U9), (_root_.Go.Proofs.Ytobechjagckdfaa.u10 U10), (_root_.Go.Proofs.Ytobechjagckdfaa.u10 U11), (_root_.Go.Proofs.Ytobechjagckdfaa.u10 U12), (_root_.Go.Proofs.Ytobechjagckdfaa.u10 U13), (_root_.Go.Proofs.Ytobechjagckdfaa.u10 U14), (_root_.Go.Proofs.Ytobechjagckdfaa.u10 U15), (_root_.Go.Proofs.Ytobechjagckdfaa.u10 U16), Lib.hid (fun m => F1.out (fun h => m (addD_mem h))), F2, F3, (_root_.Go.Proofs.Ytobechjagckdfaa.k10 F4), (_root_.Go.Proofs.Ytobechjagckdfaa.k10 F5), (_root_.Go.Proofs.Ytobechjagckdfaa.k10 F6)⟩
              · skip
                refine wpOp_step (o := _) rfl (fun KK hKK => ?_)
                rw [if_pos (wanted_nil _ rfl)]
                have E0_ := X0 u
                go_simp
                exact hKK _ _ ⟨_, P53 u _, x, yco, ycc, yuo, yuc, yvs, yeo, yec, (_root_.Go.Proofs.Ytobechjagckdfaa.u10 U0), (_root_.Go.Proofs.Ytobechjagckdfaa.u10 U1), (_root_.Go.Proofs.Ytobechjagckdfaa.u10 U2), (_root_.Go.Proofs.Ytobechjagckdfaa.u10 U3), (_root_.Go.Proofs.Ytobechjagckdfaa.u10 U4), (_root_.Go.Proofs.Ytobechjagckdfaa.u10 U5), (_root_.Go.Proofs.Ytobechjagckdfaa.u10 U6), (_root_.Go.Proofs.Ytobechjagckdfaa.u10 U7), (_root_.Go.Proofs.Ytobechjagckdfaa.u10 U8), Lib.hid (fun _ => frUpd_self), (_root_.Go.Proofs.Ytobechjagckdfaa.u10 U10), (_root_.Go.Proofs.Ytobechjagckdfaa.u10 U11), (_root_.Go.Proofs.Ytobechjagckdfaa.u10 U12), (_root_.Go.Proofs.Ytobechjagckdfaa.u10 U13), (_root_.Go.Proofs.Ytobechjagckdfaa.u10 U14), (_root_.Go.Proofs.Ytobechjagckdfaa.u10 U15), (_root_.Go.Proofs.Ytobechjagckdfaa.u10 U16), Lib.hid (fun m => F1.out (fun h => m (addD_mem h))), F2, F3, (_root_.Go.Proofs.Ytobechjagckdfaa.k10 F4), (_root_.Go.Proofs.Ytobechjagckdfaa.k10 F5), (_root_.Go.Proofs.Ytobechjagckdfaa.k10 F6)⟩
              · skip
                refine wpOp_step (o := _) rfl (fun KK hKK => ?_)
                rw [if_pos (wanted_nil _ rfl)]
                have e53 := U9.out (hw.out 9 (by kernel_rfl)); have E53_ := (E53 u).trans e53
                go_simp
                refine (s_l01Below B g _ _ F3.out).mono ?_; rintro e w2 ⟨x2, hx2, rfl, hcur2, hgr2⟩
                have hx3 := hx2.1; have hx4 := hx2.2.1 (by omega); try dsimp only
                exact hKK _ _ ⟨_, P54 u _, x2, yco, ycc, yuo, yuc, yvs, yeo, yec, (_root_.Go.Proofs.Ytobechjagckdfaa.u10 U0), (_root_.Go.Proofs.Ytobechjagckdfaa.u10 U1), (_root_.Go.Proofs.Ytobechjagckdfaa.u10 U2), (_root_.Go.Proofs.Ytobechjagckdfaa.u10 U3), (_root_.Go.Proofs.Ytobechjagckdfaa.u10 U4), (_root_.Go.Proofs.Ytobechjagckdfaa.u10 U5), (_root_.Go.Proofs.Ytobechjagckdfaa.u10 U6), (_root_.Go.Proofs.Ytobechjagckdfaa.u10 U7), (_root_.Go.Proofs.Ytobechjagckdfaa.u10 U8), (_root_.Go.Proofs.Ytobechjagckdfaa.u10 U9), Lib.hid (fun _ => frUpd_self), Lib.hid (fun h => absurd (hcl.out 11 10 (by kernel_rfl) (addD_of h (by decide))) hn), Lib.hid (fun h => absurd (hcl.out 11 10 (by kernel_rfl) (hcl.out 12 11 (by kernel_rfl) (addD_of h (by decide)))) hn), Lib.hid (fun h => absurd (hcl.out 11 10 (by kernel_rfl) (hcl.out 12 11 (by kernel_rfl) (hcl.out 13 12 (by kernel_rfl) (addD_of h (by decide))))) hn), Lib.hid (fun h => absurd (hcl.out 11 10 (by kernel_rfl) (hcl.out 12 11 (by kernel_rfl) (hcl.out 13 12 (by kernel_rfl) (hcl.out 14 13 (by kernel_rfl) (addD_of h (by decide)))))) hn), Lib.hid (fun h => absurd (hcl.out 11 10 (by kernel_rfl) (hcl.out 12 11 (by kernel_rfl) (hcl.out 13 12 (by kernel_rfl) (hcl.out 15 13 (by kernel_rfl) (addD_of h (by decide)))))) hn), (_root_.Go.Proofs.Ytobechjagckdfaa.u10 U16), Lib.hid (fun m => (F1.out (fun h => m (addD_mem h))).trans (grown_touch hgr2 (fun b hb => by cases hb; simp))), Lib.hid (F2.out.trans (grown_touch hgr2 (fun b hb => by cases hb; simp))), Lib.hid hcur2, Lib.hid (fun h => absurd (hcl.out 11 10 (by kernel_rfl) (hcl.out 12 11 (by kernel_rfl) (addD_of h (by decide)))) hn), Lib.hid (fun _ => ⟨hx3, by omega⟩), Lib.hid (fun h => absurd (hcl.out 11 10 (by kernel_rfl) (hcl.out 12 11 (by kernel_rfl) (hcl.out 13 12 (by kernel_rfl) (hcl.out 14 13 (by kernel_rfl) (hcl.out 17 14 (by kernel_rfl) (addD_of h (by decide))))))) hn)⟩
              · skip
                refine wpOp_step (o := _) rfl (fun KK hKK => ?_)
                rw [if_pos (wanted_nil _ rfl)]
                have e54 := U10.out (hw.out 10 (by kernel_rfl)); have E54_ := (E54 u).trans e54
                have hx5 := F5.out (hw.out 10 (by kernel_rfl)); have m1 : wrap64 (1 + x) = 1 + x := IntWalk.wrap64_in _ (by omega); have m2 : IntKind.i64.wrap (1 + x) = 1 + x := IntWalk.i64_in _ (by omega)
                go_simp
                exact hKK _ _ ⟨_, P55 u _, x, yco, ycc, yuo, yuc, yvs, yeo, yec, (_root_.Go.Proofs.Ytobechjagckdfaa.u10 U0), (_root_.Go.Proofs.Ytobechjagckdfaa.u10 U1), (_root_.Go.Proofs.Ytobechjagckdfaa.u10 U2), (_root_.Go.Proofs.Ytobechjagckdfaa.u10 U3), (_root_.Go.Proofs.Ytobechjagckdfaa.u10 U4), (_root_.Go.Proofs.Ytobechjagckdfaa.u10 U5), (_root_.Go.Proofs.Ytobechjagckdfaa.u10 U6), (_root_.Go.Proofs.Ytobechjagckdfaa.u10 U7), (_root_.Go.Proofs.Ytobechjagckdfaa.u10 U8), (_root_.Go.Proofs.Ytobechjagckdfaa.u10 U9), (_root_.Go.Proofs.Ytobechjagckdfaa.u10 U10), Lib.hid (fun _ => frUpd_self), (_root_.Go.Proofs.Ytobechjagckdfaa.u10 U12), (_root_.Go.Proofs.Ytobechjagckdfaa.u10 U13), (_root_.Go.Proofs.Ytobechjagckdfaa.u10 U14), (_root_.Go.Proofs.Ytobechjagckdfaa.u10 U15), (_root_.Go.Proofs.Ytobechjagckdfaa.u10 U16), Lib.hid (fun m => F1.out (fun h => m (addD_mem h))), F2, F3, (_root_.Go.Proofs.Ytobechjagckdfaa.k10 F4), (_root_.Go.Proofs.Ytobechjagckdfaa.k10 F5), (_root_.Go.Proofs.Ytobechjagckdfaa.k10 F6)⟩
              · skip
                refine wpOp_step (o := _) rfl (fun KK hKK => ?_)
                rw [if_pos (wanted_nil _ rfl)]
                have hz : ¬ D 17 := fun h => hn (hcl.out 13 12 (by kernel_rfl) (hcl.out 14 13 (by kernel_rfl) (hcl.out 17 14 (by kernel_rfl) h)))
                have KI : Hid (KIn w.heap.size wv gk y K) := Lib.hid (HS.out.kin.touchN (F1.out hz) HN1.out HN2.out)
                have e45 := U1.out (hw.out 1 (by kernel_rfl)); have E45_ := (E45 u).trans e45
                have e52 := U8.out (hw.out 8 (by kernel_rfl)); have E52_ := (E52 u).trans e52
                have e55 := U11.out (hw.out 11 (by kernel_rfl)); have E55_ := (E55 u).trans e55
                go_simp
                have hx5 := F5.out (hcl.out 11 10 (by kernel_rfl) (hw.out 11 (by kernel_rfl)))
                refine (s_Store y.m K.m ((n : Int) * 16 + (jj : Int)) (1 + x) HSZ.out (by omega) _ KI.out.own.m.at).mono ?_; rintro e w2 ⟨ym, rfl, hyo, hb⟩
                obtain ⟨zco, zcc, zuo, zuc, zvs, zeo, zec, rfl⟩ := MOwn.shapes hyo; try dsimp only
                exact hKK _ _ ⟨_, P56 u _, x, zco, zcc, zuo, zuc, zvs, zeo, zec, (_root_.Go.Proofs.Ytobechjagckdfaa.u10 U0), (_root_.Go.Proofs.Ytobechjagckdfaa.u10 U1), (_root_.Go.Proofs.Ytobechjagckdfaa.u10 U2), (_root_.Go.Proofs.Ytobechjagckdfaa.u10 U3), (_root_.Go.Proofs.Ytobechjagckdfaa.u10 U4), (_root_.Go.Proofs.Ytobechjagckdfaa.u10 U5), (_root_.Go.Proofs.Ytobechjagckdfaa.u10 U6), (_root_.Go.Proofs.Ytobechjagckdfaa.u10 U7), (_root_.Go.Proofs.Ytobechjagckdfaa.u10 U8), (_root_.Go.Proofs.Ytobechjagckdfaa.u10 U9), (_root_.Go.Proofs.Ytobechjagckdfaa.u10 U10), (_root_.Go.Proofs.Ytobechjagckdfaa.u10 U11), Lib.hid (fun _ => frUpd_self), Lib.hid (fun h => absurd (hcl.out 13 12 (by kernel_rfl) (addD_of h (by decide))) hn), Lib.hid (fun h => absurd (hcl.out 13 12 (by kernel_rfl) (hcl.out 14 13 (by kernel_rfl) (addD_of h (by decide)))) hn), (_root_.Go.Proofs.Ytobechjagckdfaa.u10 U15), (_root_.Go.Proofs.Ytobechjagckdfaa.u10 U16), Lib.hid (fun m => (F1.out (fun h => m (addD_mem h))).trans (touch_of_below hb _)), Lib.hid (F2.out.trans (touch_of_below hb _)), Lib.hid (F3.out.below hb), Lib.hid (fun _ => hyo.mono F2.out.size), (_root_.Go.Proofs.Ytobechjagckdfaa.k10 F5), Lib.hid (fun h => absurd (hcl.out 13 12 (by kernel_rfl) (hcl.out 14 13 (by kernel_rfl) (hcl.out 17 14 (by kernel_rfl) (addD_of h (by decide))))) hn)⟩
              · skip
                refine wpOp_step (o := _) rfl (fun KK hKK => ?_)
                rw [if_pos (wanted_nil _ rfl)]
                have e56 := U12.out (hw.out 12 (by kernel_rfl)); have E56_ := (E56 u).trans e56
                go_simp
                exact hKK _ _ ⟨_, P43 u _, x, yco, ycc, yuo, yuc, yvs, yeo, yec, (_root_.Go.Proofs.Ytobechjagckdfaa.u10 U0), (_root_.Go.Proofs.Ytobechjagckdfaa.u10 U1), (_root_.Go.Proofs.Ytobechjagckdfaa.u10 U2), (_root_.Go.Proofs.Ytobechjagckdfaa.u10 U3), (_root_.Go.Proofs.Ytobechjagckdfaa.u10 U4), (_root_.Go.Proofs.Ytobechjagckdfaa.u10 U5), (_root_.Go.Proofs.Ytobechjagckdfaa.u10 U6), (_root_.Go.Proofs.Ytobechjagckdfaa.u10 U7), (_root_.Go.Proofs.Ytobechjagckdfaa.u10 U8), (_root_.Go.Proofs.Ytobechjagckdfaa.u10 U9), (_root_.Go.Proofs.Ytobechjagckdfaa.u10 U10), (_root_.Go.Proofs.Ytobechjagckdfaa.u10 U11), (_root_.Go.Proofs.Ytobechjagckdfaa.u10 U12), Lib.hid (fun _ => frUpd_self), (_root_.Go.Proofs.Ytobechjagckdfaa.u10 U14), (_root_.Go.Proofs.Ytobechjagckdfaa.u10 U15), (_root_.Go.Proofs.Ytobechjagckdfaa.u10 U16), Lib.hid (fun m => F1.out (fun h => m (addD_mem h))), F2, F3, (_root_.Go.Proofs.Ytobechjagckdfaa.k10 F4), (_root_.Go.Proofs.Ytobechjagckdfaa.k10 F5), (_root_.Go.Proofs.Ytobechjagckdfaa.k10 F6)⟩
              · skip
                refine wpOp_step (o := _) rfl (fun KK hKK => ?_)
                rw [if_pos (wanted_nil _ rfl)]
                have e43 := U13.out (hw.out 13 (by kernel_rfl)); have E43_ := (E43 u).trans e43
                go_simp
                exact hKK _ _ ⟨_, P57 u _, x, yco, ycc, yuo, yuc, yvs, yeo, yec, (_root_.Go.Proofs.Ytobechjagckdfaa.u10 U0), (_root_.Go.Proofs.Ytobechjagckdfaa.u10 U1), (_root_.Go.Proofs.Ytobechjagckdfaa.u10 U2), (_root_.Go.Proofs.Ytobechjagckdfaa.u10 U3), (_root_.Go.Proofs.Ytobechjagckdfaa.u10 U4), (_root_.Go.Proofs.Ytobechjagckdfaa.u10 U5), (_root_.Go.Proofs.Ytobechjagckdfaa.u10 U6), (_root_.Go.Proofs.Ytobechjagckdfaa.u10 U7), (_root_.Go.Proofs.Ytobechjagckdfaa.u10 U8), (_root_.Go.Proofs.Ytobechjagckdfaa.u10 U9), (_root_.Go.Proofs.Ytobechjagckdfaa.u10 U10), (_root_.Go.Proofs.Ytobechjagckdfaa.u10 U11), (_root_.Go.Proofs.Ytobechjagckdfaa.u10 U12), (_root_.Go.Proofs.Ytobechjagckdfaa.u10 U13), Lib.hid (fun _ => frUpd_self), (_root_.Go.Proofs.Ytobechjagckdfaa.u10 U15), (_root_.Go.Proofs.Ytobechjagckdfaa.u10 U16), Lib.hid (fun m => F1.out (fun h => m (addD_mem h))), F2, F3, (_root_.Go.Proofs.Ytobechjagckdfaa.k10 F4), (_root_.Go.Proofs.Ytobechjagckdfaa.k10 F5), (_root_.Go.Proofs.Ytobechjagckdfaa.k10 F6)⟩
              · skip
                refine wpOp_step (o := _) rfl (fun KK hKK => ?_)
                rw [if_pos (wanted_nil _ rfl)]
                have e43 := U13.out (hw.out 13 (by kernel_rfl)); have E43_ := (E43 u).trans e43
                go_simp
                exact hKK _ _ ⟨_, P58 u _, x, yco, ycc, yuo, yuc, yvs, yeo, yec, (_root_.Go.Proofs.Ytobechjagckdfaa.u10 U0), (_root_.Go.Proofs.Ytobechjagckdfaa.u10 U1), (_root_.Go.Proofs.Ytobechjagckdfaa.u10 U2), (_root_.Go.Proofs.Ytobechjagckdfaa.u10 U3), (_root_.Go.Proofs.Ytobechjagckdfaa.u10 U4), (_root_.Go.Proofs.Ytobechjagckdfaa.u10 U5), (_root_.Go.Proofs.Ytobechjagckdfaa.u10 U6), (_root_.Go.Proofs.Ytobechjagckdfaa.u10 U7), (_root_.Go.Proofs.Ytobechjagckdfaa.u10 U8), (_root_.Go.Proofs.Ytobechjagckdfaa.u10 U9), (_root_.Go.Proofs.Ytobechjagckdfaa.u10 U10), (_root_.Go.Proofs.Ytobechjagckdfaa.u10 U11), (_root_.Go.Proofs.Ytobechjagckdfaa.u10 U12), (_root_.Go.Proofs.Ytobechjagckdfaa.u10 U13), (_root_.Go.Proofs.Ytobechjagckdfaa.u10 U14), Lib.hid (fun _ => frUpd_self), (_root_.Go.Proofs.Ytobechjagckdfaa.u10 U16), Lib.hid (fun m => F1.out (fun h => m (addD_mem h))), F2, F3, (_root_.Go.Proofs.Ytobechjagckdfaa.k10 F4), (_root_.Go.Proofs.Ytobechjagckdfaa.k10 F5), (_root_.Go.Proofs.Ytobechjagckdfaa.k10 F6)⟩
              · skip
                refine wpOp_step (o := _) rfl (fun KK hKK => ?_)
                rw [if_pos (wanted_nil _ rfl)]
                have E4_ := X4 u
                go_simp
                exact hKK _ _ ⟨_, P59 u _, x, yco, ycc, yuo, yuc, yvs, yeo, yec, (_root_.Go.Proofs.Ytobechjagckdfaa.u10 U0), (_root_.Go.Proofs.Ytobechjagckdfaa.u10 U1), (_root_.Go.Proofs.Ytobechjagckdfaa.u10 U2), (_root_.Go.Proofs.Ytobechjagckdfaa.u10 U3), (_root_.Go.Proofs.Ytobechjagckdfaa.u10 U4), (_root_.Go.Proofs.Ytobechjagckdfaa.u10 U5), (_root_.Go.Proofs.Ytobechjagckdfaa.u10 U6), (_root_.Go.Proofs.Ytobechjagckdfaa.u10 U7), (_root_.Go.Proofs.Ytobechjagckdfaa.u10 U8), (_root_.Go.Proofs.Ytobechjagckdfaa.u10 U9), (_root_.Go.Proofs.Ytobechjagckdfaa.u10 U10), (_root_.Go.Proofs.Ytobechjagckdfaa.u10 U11), (_root_.Go.Proofs.Ytobechjagckdfaa.u10 U12), (_root_.Go.Proofs.Ytobechjagckdfaa.u10 U13), (_root_.Go.Proofs.Ytobechjagckdfaa.u10 U14), (_root_.Go.Proofs.Ytobechjagckdfaa.u10 U15), Lib.hid (fun _ => frUpd_self), Lib.hid (fun m => F1.out (fun h => m (addD_mem h))), F2, F3, (_root_.Go.Proofs.Ytobechjagckdfaa.k10 F4), (_root_.Go.Proofs.Ytobechjagckdfaa.k10 F5), (_root_.Go.Proofs.Ytobechjagckdfaa.k10 F6)⟩
              · skip
                refine wpOp_step (o := _) rfl (fun KK hKK => ?_)
                rw [if_pos (wanted_nil _ rfl)]
                have hz : ¬ D 17 := fun h => hn h
                have KI : Hid (KIn w.heap.size wv gk y K) := Lib.hid (HS.out.kin.touchN (F1.out hz) HN1.out HN2.out)
                have hbx := KI.out.box; have c0 := hbx.c0; have c1 := hbx.c1; have c2 := hbx.c2; have f0 := hbx.f0; have f1 := hbx.f1; have f2 := hbx.f2; have xg := hbx.lt; clear hbx
                have e59 := U16.out (hw.out 16 (by kernel_rfl)); have E59_ := (E59 u).trans e59
                have e57 := U14.out (hw.out 14 (by kernel_rfl)); have E57_ := (E57 u).trans e57
                go_simp
                have HM := Lib.hid (F4.out (hcl.out 13 12 (by kernel_rfl) (hcl.out 14 13 (by kernel_rfl) (hw.out 14 (by kernel_rfl)))))
                have hne : gk ∉ blocks (MV.all ⟨⟨.slice yco yvs.length ycc, .slice yuo (storeM K.m ((n : Int) * 16 + (jj : Int)) (1 + x)).f.used.length yuc, yvs⟩, .slice yeo (storeM K.m ((n : Int) * 16 + (jj : Int)) (1 + x)).ents.length yec⟩) := fun hm => by have := (HM.out.lts gk hm).1; have := HS.out.kin.box.lt; omega
                exact hKK _ _ ⟨u, rfl, x, yco, ycc, yuo, yuc, yvs, yeo, yec, (_root_.Go.Proofs.Ytobechjagckdfaa.k10 U0), (_root_.Go.Proofs.Ytobechjagckdfaa.k10 U1), (_root_.Go.Proofs.Ytobechjagckdfaa.k10 U2), (_root_.Go.Proofs.Ytobechjagckdfaa.k10 U3), (_root_.Go.Proofs.Ytobechjagckdfaa.k10 U4), (_root_.Go.Proofs.Ytobechjagckdfaa.k10 U5), (_root_.Go.Proofs.Ytobechjagckdfaa.k10 U6), (_root_.Go.Proofs.Ytobechjagckdfaa.k10 U7), (_root_.Go.Proofs.Ytobechjagckdfaa.k10 U8), (_root_.Go.Proofs.Ytobechjagckdfaa.k10 U9), (_root_.Go.Proofs.Ytobechjagckdfaa.k10 U10), (_root_.Go.Proofs.Ytobechjagckdfaa.k10 U11), (_root_.Go.Proofs.Ytobechjagckdfaa.k10 U12), (_root_.Go.Proofs.Ytobechjagckdfaa.k10 U13), (_root_.Go.Proofs.Ytobechjagckdfaa.k10 U14), (_root_.Go.Proofs.Ytobechjagckdfaa.k10 U15), (_root_.Go.Proofs.Ytobechjagckdfaa.k10 U16), Lib.hid (fun m => absurd (addD_self 17) m), Lib.hid (touch_setC (touch_setC (touch_setC F2.out (by simp)) (by simp)) (by simp)), Lib.hid (Cur.setN (Cur.setN (Cur.setN F3.out (by have := KI.out.hB; have := HS.out.cur.1; have := HS.out.hg; omega) HS.out.gne.1 _ _) (by have := KI.out.hB; have := HS.out.cur.1; have := HS.out.hg; omega) HS.out.gne.1 _ _) (by have := KI.out.hB; have := HS.out.cur.1; have := HS.out.hg; omega) HS.out.gne.1 _ _), Lib.hid (fun _ => HM.out.touch (S := [gk]) (touch_bx (touch_bx (touch_bx (Touch.refl _ _)))) (fun b hb hm => hne (by rw [← List.mem_singleton.1 hm]; exact hb))), (_root_.Go.Proofs.Ytobechjagckdfaa.k10 F5), Lib.hid (fun _ => KIn.setM KI.out HM.out HS.out.kin.box.lt (fun b hb => (HS.out.kin.own.lts b (sub_left [y.r] _ b hb)).2) (by have := HS.out.size; omega))⟩
            · rintro D u wv ⟨x, yco, ycc, yuo, yuc, yvs, yeo, yec, U0, U1, U2, U3, U4, U5, U6, U7, U8, U9, U10, U11, U12, U13, U14, U15, U16, F1, F2, F3, F4, F5, F6⟩ hall9
              have hxr := F5.out (hall9 10 (by show 10 < 18; decide))
              have HKN := Lib.hid (F6.out (hall9 17 (by show 17 < 18; decide)))
              have HMN := Lib.hid (F4.out (hall9 12 (by show 12 < 18; decide)))
              have ha1 := ha0.out; subst ha1
              clear hall9 ha0 hsz HN1 HN2 U0 U1 U2 U3 U4 U5 U6 U7 U8 U9 U10 U11 U12 U13 U14 U15 U16 E44 P44 E45 P45 E46 P46 E47 P47 E48 P48 E49 P49 E50 P50 E51 P51 E52 P52 E53 P53 E54 P54 E55 P55 E56 P56 E43 P43 E57 P57 E58 P58 E59 P59 X0 X4 X8 X10 X11 F1 F4 F5 F6
              obtain ⟨wn, rfl⟩ : ∃ q, q = wv := ⟨_, rfl⟩
              simp only [frAll, frTo, List.setIfInBounds_toArray, List.set_cons_succ, List.set_cons_zero]
              have hT : Touch (g :: gk :: blocks y.all) w1 wn := F2.out.mono (by intro b hb; simp only [List.mem_cons, List.not_mem_nil, or_false] at hb; rcases hb with rfl | rfl <;> simp)
              obtain ⟨SN, KN⟩ := HS.out.next HKN.out hT (fun b hb => by
                rw [show (KV.all ⟨⟨⟨.slice yco yvs.length ycc, .slice yuo (storeM K.m ((n : Int) * 16 + (jj : Int)) (1 + x)).f.used.length yuc, yvs⟩, .slice yeo (storeM K.m ((n : Int) * 16 + (jj : Int)) (1 + x)).ents.length yec⟩, y.r⟩) = [y.r] ++ MV.all ⟨⟨.slice yco yvs.length ycc, .slice yuo (storeM K.m ((n : Int) * 16 + (jj : Int)) (1 + x)).f.used.length yuc, yvs⟩, .slice yeo (storeM K.m ((n : Int) * 16 + (jj : Int)) (1 + x)).ents.length yec⟩ from rfl, blocks_append, List.mem_append] at hb
                rcases hb with hb | hb
                · exact .inl (sub_left [y.r] _ b hb)
                · exact .inr (HMN.out.lts b hb).1) F3.out
              have IN := sinv_store HI.out (i := sp.length) (p := n) (b := b) (by simp) hj16 HJB.out (1 + x)
              go_wp2_with fail
              go_roundw
              case rel => exact ⟨q + 1, _, _, by omega, by go_num, IN, hcl, SN, HK.out.trans KN, by have := hT.size; omega⟩
              case measure => simp [intOf]; omega
          · obtain rfl : q = xs.length := by omega
            have hqI : ¬ (xs.length : Int) < (xs.length : Nat) := by omega
            have HOW := Lib.hid (Own.keep HO9.out HK.out (fun k hk => List.mem_cons_of_mem _ (List.mem_append_left _ hk)))
            have HBW := Lib.hid (HB9.out.keep HK.out (List.mem_cons_self ..) hsz)
            have bsw := HBS.out.keep HK.out (List.mem_cons_of_mem _ (List.mem_append_right _ (List.mem_cons_self ..))) hsz
            have k0 := (bsw.cells 0 _ rfl).1; have k1 := (bsw.cells 1 _ rfl).1; have k2 := (bsw.cells 2 _ rfl).1
            clear bsw HK HO9 HB9 HBS HX HXS
            go_wp2_with (at_builtin; refine wpList_append1 elemSpan rfl _ _ rfl lenSpan rfl (Own.alloc HOW.out _) (by simp only [World.size_alloc]; omega) rfl (⟨(n : Int), c, (b : Int)⟩ : Sp) (oneSpan _) (fspanN _ ⟨(n : Int), c, (b : Int)⟩) (by unfold maxLen; omega) ?_; intro v4 w4 hown4 hgr4 hat4 hb4; obtain ⟨vo4, vc4, rfl, -, -⟩ := Own.shape hown4; have H4 := Lib.hid hown4; have HG4 := Lib.hid hgr4; have HA4 := Lib.hid hat4; have HB4 := Lib.hid hb4; clear hown4 hgr4 hat4 hb4)
            have hw1 := HS.out.size
            obtain ⟨wA, hwA⟩ : ∃ q, q = w1.alloc (.cells #[.int .i64 (n : Int), .int .i64 c, .int .i64 (b : Int)] 49) := ⟨_, rfl⟩
            have upA : Below w1.heap.size w1 wA := by rw [hwA]; exact (Below.refl _ _).alloc (Nat.le_refl _) _
            have hzA := upA.size
            have SA := (HS.out.below upA).1
            have hg4 := HG4.out; have ha4 := HA4.out
            rw [← hwA] at hg4 ha4
            have LV := Own.lts HOW.out
            have LV4 := Own.lts H4.out
            have t4 : Touch (blocks [(.slice vo sp.length vc : Value)]) wA w4 := grown_touch hg4 (fun b hb => mem_one hb)
            have S4 : DrSt B w w4 g gk y K (w.heap.size :: blocks [.slice vo4 (sp ++ [(⟨(n : Int), c, (b : Int)⟩ : Sp)]).length vc4]) := SA.other t4 (fun b hb => List.mem_cons_of_mem _ (List.mem_append_left _ hb)) (fun b hb => by
              rcases List.mem_cons.1 hb with rfl | hb
              · exact .inl (List.mem_cons_self ..)
              · rcases ha4 with e | e
                · exact .inl (List.mem_cons_of_mem _ (List.mem_append_left _ (mem_one (e.symm.trans (one_blkK hb)))))
                · have e2 := Option.some.inj (e.symm.trans (one_blkK hb))
                  exact .inr ⟨by omega, (LV4 b hb).2⟩)
            have B4 : BoxAt w4 w.heap.size [.slice none 0 0, .slice none 0 0, .slice none 0 0, .int .i64 0, .slice none 0 0] := (HBW.out.below upA).touch t4 (fun hm => by have := (LV _ hm).1; omega)
            have HS4 := Lib.hid S4; have HB4' := Lib.hid B4
            clear S4 B4 t4 LV LV4 hg4 ha4 SA upA hzA hwA HG4 HA4 HB4 HOW HBW HS k0 k1 k2
            refine (s_l01Once B g 4 _ HS4.out.cur).mono ?_; rintro e w5 ⟨r, rfl, hcur5, hgr5⟩
            obtain ⟨S5, K5⟩ := HS4.out.draw hgr5 hcur5
            have HS5 := Lib.hid S5
            have HO5 := Lib.hid (Own.keep H4.out K5 (fun k hk => List.mem_cons_of_mem _ hk))
            have HB5 := Lib.hid (HB4'.out.keep K5 (List.mem_cons_self ..) hgr5.size)
            clear S5 K5 hcur5 hgr5 HS4 H4 HB4'
            cases r
            · go_wp2_with fail
              go_roundw
              case rel => exact ⟨n + 1, vo4, vc4, sp ++ [⟨(n : Int), c, (b : Int)⟩], y, K, by omega, by go_num, (by first | rfl | simp), by rw [List.length_append]; simp; omega, HI.out, by omega, HO5.out, HB5.out, HS5.out⟩
              case measure => simp [intOf]; omega
            · go_wp2_with fail
              refine (s_l08ProtectT w.heap.size gk y K n 1 (by have := HI.out.calls; omega) _ HS5.out.kin).mono ?_; rintro e w6 ⟨rfl, hk6, hb6, ht6⟩
              obtain ⟨S6, K6⟩ := HS5.out.kstep hk6 ht6 (fun b hb => .inl hb)
              have IP := sinv_prot HI.out (by omega) n 1
              go_wp2_with fail
              go_roundw
              case rel => exact ⟨n + 1, vo4, vc4, sp ++ [⟨(n : Int), c, (b : Int)⟩], y, _, by omega, by go_num, (by first | rfl | simp), by rw [List.length_append]; simp; omega, IP, by split <;> (first | (show K.calls + 1 ≤ _; omega) | (unfold setEnt countedK; dsimp only; omega)), Own.keep HO5.out K6 (fun k hk => List.mem_cons_of_mem _ hk), HB5.out.keep K6 (List.mem_cons_self ..) ht6.size, S6⟩
              case measure => simp [intOf]; omega
    · obtain rfl : n = 3 := by omega
      obtain ⟨yco, ycc, yuo, yuc, yvs, yeo, yec, yro, yrc, rfl⟩ := KOwn.shapes HS.out.kin.own
      have hbx := HS.out.kin.box
      have c0 := hbx.c0; have c1 := hbx.c1; have c2 := hbx.c2; have c3 := hbx.c3; have c4 := hbx.c4; have xg := hbx.lt
      dsimp only at c0 c1 c2 c3 c4
      have hb := HB.out
      have p0 := (hb.cells 0 _ rfl).1; have q0 := (hb.cells 0 _ rfl).2; have p1 := (hb.cells 1 _ rfl).1; have q1 := (hb.cells 1 _ rfl).2; have p2 := (hb.cells 2 _ rfl).1; have q2 := (hb.cells 2 _ rfl).2; have p3 := (hb.cells 3 _ rfl).1; have q3 := (hb.cells 3 _ rfl).2; have p4 := (hb.cells 4 _ rfl).1; have q4 := (hb.cells 4 _ rfl).2
      have xb := hb.lt
      clear hbx hb
      go_wp2_with fail
      refine bodyPost_ret (v := .tuple #[.agg #[.slice yco yvs.length ycc, .slice yuo K.m.f.used.length yuc, .slice yeo K.m.ents.length yec, .int .i64 K.calls, .slice yro K.refuse.length yrc], .slice vo sp.length vc]) (by simp [results, Try.results21, go_sem, *]) rfl ?_
      have hex := HS.out.ex
      refine ⟨⟨⟨⟨.slice yco yvs.length ycc, .slice yuo K.m.f.used.length yuc, yvs⟩, .slice yeo K.m.ents.length yec⟩, .slice yro K.refuse.length yrc⟩, K, _, sp, c, rfl, HI.out, by omega, by omega, HS.out.kin.own.touch (S := [w.heap.size]) (touch_bx (touch_bx (touch_bx (touch_bx (touch_bx (Touch.refl _ _)))))) (fun b hb hm => by cases List.mem_singleton.1 hm; exact (hex _ (List.mem_cons_self ..)).2.2.2 hb), (Own.touch (S := [w.heap.size]) HO.out (touch_bx (touch_bx (touch_bx (touch_bx (touch_bx (Touch.refl _ _)))))) (fun b hb hm => by cases List.mem_singleton.1 hm; have := (HO.out.lt _ hb).1; omega)).mono (by omega), fun b hb => (hex b (List.mem_cons_of_mem _ hb)).2.2.2, ?_⟩
      exact grown_setN (grown_setN (grown_setN (grown_setN (grown_setN HS.out.grew (Nat.le_refl _) _ _) (Nat.le_refl _) _ _) (Nat.le_refl _) _ _) (Nat.le_refl _) _ _) (Nat.le_refl _) _ _

end Go.Proofs.Ytobechjagckdfaa
