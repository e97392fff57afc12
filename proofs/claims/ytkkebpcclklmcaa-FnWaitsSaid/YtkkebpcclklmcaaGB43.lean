/-
  Texts put together: PairD.
-/
import Derived.Test.YtkkebpcclklmcaaGB34
import Derived.Test.YtkkebpcclklmcaaGB36
import Derived.Test.YtkkebpcclklmcaaGB42
import Derived.Test.YtkkebpcclklmcaaGB14
import Derived.Deep.RegionHeld3
/-
  A kernel with two pages and a plan, as the reference draws them.
-/
set_option linter.unusedVariables false
set_option linter.unusedSimpArgs false
namespace Go.Proofs.Ytkkebpcclklmcaa
open Go.Deep Go.RowKit
theorem hasI_mem {xs : List Int} {x : Int} : hasI xs x = true ↔ x ∈ xs := by
  have key : ∀ k, k ≤ xs.length → (hasTo xs x k = true ↔ x ∈ xs.take k) := by
    intro k
    induction k with
    | zero => intro _; simp [hasTo]
    | succ k ih =>
      intro hk
      obtain ⟨y, hy⟩ := getx (xs := xs) (k := k) (by omega)
      rw [hasTo_succ hy, take_snoc hy, Bool.or_eq_true, ih (by omega), List.mem_append, List.mem_singleton, beq_iff_eq]
      exact ⟨fun h => h.imp_right Eq.symm, fun h => h.imp_right Eq.symm⟩
  unfold hasI
  rw [key _ (Nat.le_refl _), List.take_length]
theorem live_in {kp mv : Nat} (cs : List Int) (k : Nat) (h : hasI cs (k : Int) = true) : livePg kp mv cs k = mv := if_pos (hasI_mem.1 h)
theorem live_out {kp mv : Nat} (cs : List Int) (k : Nat) (h : hasI cs (k : Int) = false) : livePg kp mv cs k = kp := if_neg (fun hm => by rw [hasI_mem.2 hm] at h; cases h)
theorem DInv.can {K : Ker} {kp mv : Nat} {cs : List Int} (h : DInv K kp mv cs) : canCall K = true :=
  (canCall_iff K).2 ⟨(kernelOk_iff _).2 ⟨fun x hx => (h.ref x hx).1, ⟨h.calls.1, by have := h.calls.2; omega⟩, h.rl, h.ok⟩, by have := h.calls; omega⟩
def DrawnPair (B : Nat) (w : World) (g : Nat) (e : Ending) (w' : World) : Prop := ∃ (y : KV) (K : Ker) (kp mv : Nat) (v : Value) (cs : List Int), e = .returned (.tuple #[y.val K.calls, .agg #[.int .i64 (kp : Int), .int .i64 (mv : Int), v]]) ∧ DInv K kp mv cs ∧ K.calls ≤ 2 ∧ kp < 4 ∧ mv < 4 ∧ KOwn w.heap.size w' y K ∧ OwnI w.heap.size w' v cs ∧ (∀ b ∈ blocks [v], b ∉ blocks y.all) ∧ Cur B w' g ∧ w.grownBy w' (some g)
set_option maxRecDepth 20000 in
set_option maxHeartbeats 6400000 in
theorem s_l14Pair (B g : Nat) (w : World) (hcur : Cur B w g) : Calls Try.prog 32 #[.pointer (some ⟨g, 0, none⟩)] w (DrawnPair B w g) := by
  have hg := hcur.lt
  have hBg := hcur.1
  (have hall := all_nil w; go_enter Try.func32, Try.ntmps32)
  go_wp2_with fail
  have up0 : Below w.heap.size w ((w.alloc (.cells #[.slice none 0 0, .slice none 0 0, .slice none 0 0, .int .i64 0, .slice none 0 0] 35)).alloc (.cells #[.int .i64 0, .int .i64 0, .slice none 0 0] 37)) := ((Below.refl _ _).alloc (Nat.le_refl _) _).alloc (by simp only [World.size_alloc]; omega) _
  have b0 : BoxAt ((w.alloc (.cells #[.slice none 0 0, .slice none 0 0, .slice none 0 0, .int .i64 0, .slice none 0 0] 35)).alloc (.cells #[.int .i64 0, .int .i64 0, .slice none 0 0] 37)) w.heap.size [.slice none 0 0, .slice none 0 0, .slice none 0 0, .int .i64 0, .slice none 0 0] := (BoxAt.snoc (BoxAt.snoc (BoxAt.snoc (BoxAt.snoc (BoxAt.snoc (BoxAt.nil (w := ((w.alloc (.cells #[.slice none 0 0, .slice none 0 0, .slice none 0 0, .int .i64 0, .slice none 0 0] 35)).alloc (.cells #[.int .i64 0, .int .i64 0, .slice none 0 0] 37))) (g := w.heap.size) (by go_simp)) (v := .slice none 0 0) rfl (by go_simp) (by go_simp)) (v := .slice none 0 0) rfl (by go_simp) (by go_simp)) (v := .slice none 0 0) rfl (by go_simp) (by go_simp)) (v := .int .i64 0) rfl (by go_simp) (by go_simp)) (v := .slice none 0 0) rfl (by go_simp) (by go_simp))
  have b1 : BoxAt ((w.alloc (.cells #[.slice none 0 0, .slice none 0 0, .slice none 0 0, .int .i64 0, .slice none 0 0] 35)).alloc (.cells #[.int .i64 0, .int .i64 0, .slice none 0 0] 37)) (w.heap.size + 1) [.int .i64 0, .int .i64 0, .slice none 0 0] := (BoxAt.snoc (BoxAt.snoc (BoxAt.snoc (BoxAt.nil (w := ((w.alloc (.cells #[.slice none 0 0, .slice none 0 0, .slice none 0 0, .int .i64 0, .slice none 0 0] 35)).alloc (.cells #[.int .i64 0, .int .i64 0, .slice none 0 0] 37))) (g := w.heap.size + 1) (by go_simp)) (v := .int .i64 0) rfl (by go_simp) (by go_simp)) (v := .int .i64 0) rfl (by go_simp) (by go_simp)) (v := .slice none 0 0) rfl (by go_simp) (by go_simp))
  have g0 : w.grownBy ((w.alloc (.cells #[.slice none 0 0, .slice none 0 0, .slice none 0 0, .int .i64 0, .slice none 0 0] 35)).alloc (.cells #[.int .i64 0, .int .i64 0, .slice none 0 0] 37)) (some g) := grown_trans (World.grownBy_alloc w _ (some g)) (World.grownBy_alloc _ _ (some g))
  refine (s_l08Refuse B g _ (hcur.below up0)).mono ?_; rintro e w2 ⟨v0, rf, rfl, hrl, hrx, hrf, hcur2, hgr2⟩
  have t2 : Touch [g] ((w.alloc (.cells #[.slice none 0 0, .slice none 0 0, .slice none 0 0, .int .i64 0, .slice none 0 0] 35)).alloc (.cells #[.int .i64 0, .int .i64 0, .slice none 0 0] 37)) w2 := grown_touch hgr2 fun b hb => by cases hb; simp
  have HB2 := Lib.hid (b0.touch t2 (by simp; omega)); have HB2' := Lib.hid (b1.touch t2 (by simp; omega))
  have HG2 := Lib.hid (grown_trans g0 hgr2); have HC2 := Lib.hid hcur2; have HR2 := Lib.hid hrf
  have hz2 := hgr2.size
  simp only [World.size_alloc] at hz2
  clear hcur hgr2 g0 b0 b1 up0 t2 hcur2 hrf
  go_wp2_with fail
  refine (s_KernelNew v0 rf hrx hrl _ (HR2.out.at lenInt)).mono ?_; rintro e w3 ⟨y, rfl, hyo, hb3⟩
  obtain ⟨yco, ycc, yuo, yuc, yvs, yeo, yec, yro, yrc, rfl⟩ := KOwn.shapes hyo
  have HO3 : Hid (KOwn w2.heap.size w3 ⟨⟨⟨.slice yco yvs.length ycc, .slice yuo 4 yuc, yvs⟩, .slice yeo 4 yec⟩, .slice yro rf.length yrc⟩ (newK 4 4 rf)) := Lib.hid hyo; have HB3 := Lib.hid hb3
  have hz3 := hb3.size
  simp only [KV.val, newK]
  clear hyo hb3
  go_wp2_with fail
  have up : Below w3.heap.size w3 (w3.alloc (.cells #[.slice yco yvs.length ycc, .slice yuo 4 yuc, .slice yeo 4 yec, .int .i64 0, .slice yro rf.length yrc] 35)) := (Below.refl _ _).alloc (Nat.le_refl _) _
  have up2 : Below w2.heap.size w2 (w3.alloc (.cells #[.slice yco yvs.length ycc, .slice yuo 4 yuc, .slice yeo 4 yec, .int .i64 0, .slice yro rf.length yrc] 35)) := HB3.out.trans (up.mono hz3)
  have K4 : KIn w.heap.size (w3.alloc (.cells #[.slice yco yvs.length ycc, .slice yuo 4 yuc, .slice yeo 4 yec, .int .i64 0, .slice yro rf.length yrc] 35)) w3.heap.size ⟨⟨⟨.slice yco yvs.length ycc, .slice yuo 4 yuc, yvs⟩, .slice yeo 4 yec⟩, .slice yro rf.length yrc⟩ (newK 4 4 rf) := ⟨⟨(by first | (go_simp; done) | (go_simp; rfl)), (by first | (go_simp; done) | (go_simp; rfl)), (by first | (go_simp; done) | (go_simp; rfl)), (by first | (go_simp; done) | (go_simp; rfl)), (by first | (go_simp; done) | (go_simp; rfl)), (by first | (go_simp; done) | (go_simp; rfl)), (by first | (go_simp; done) | (go_simp; rfl)), (by first | (go_simp; done) | (go_simp; rfl)), (by first | (go_simp; done) | (go_simp; rfl)), (by first | (go_simp; done) | (go_simp; rfl)), (by first | (go_simp; done) | (go_simp; rfl))⟩, (HO3.out.below up).mono (by omega), by omega, fun hm => by have := (HO3.out.lts _ hm).2; omega⟩
  have S4 : DrSt B w (w3.alloc (.cells #[.slice yco yvs.length ycc, .slice yuo 4 yuc, .slice yeo 4 yec, .int .i64 0, .slice yro rf.length yrc] 35)) g w3.heap.size ⟨⟨⟨.slice yco yvs.length ycc, .slice yuo 4 yuc, yvs⟩, .slice yeo 4 yec⟩, .slice yro rf.length yrc⟩ (newK 4 4 rf) [w.heap.size, w.heap.size + 1] := by
    refine ⟨K4, HC2.out.below up2, grown_belowW HG2.out (up2.mono (by omega)), hg, fun b hb => ?_⟩
    simp only [List.mem_cons, List.not_mem_nil, or_false] at hb
    simp only [World.size_alloc]
    rcases hb with rfl | rfl
    · exact ⟨by omega, by omega, by omega, fun hm => by have := (HO3.out.lts _ hm).1; omega⟩
    · exact ⟨by omega, by omega, by omega, fun hm => by have := (HO3.out.lts _ hm).1; omega⟩
  have HB4 := Lib.hid (HB2.out.below up2); have HB4' := Lib.hid (HB2'.out.below up2)
  refine (s_l13Plan B g _ S4.cur).mono ?_; rintro e w5 ⟨kp, mv, v, cs, rfl, hk4, hm4, hcs, hplan, hc16, hvo, hcur5, hgr5⟩
  obtain ⟨vo, vc, rfl, -, -, -⟩ := Own.shape hvo
  obtain ⟨S5, K5⟩ := S4.draw hgr5 hcur5
  have hz5 := hgr5.size
  simp only [World.size_alloc] at hz5
  have hvl := hvo.lts
  simp only [World.size_alloc] at hvl
  have S5' : DrSt B w w5 g w3.heap.size ⟨⟨⟨.slice yco yvs.length ycc, .slice yuo 4 yuc, yvs⟩, .slice yeo 4 yec⟩, .slice yro rf.length yrc⟩ (newK 4 4 rf) (w.heap.size :: (w.heap.size + 1) :: blocks [.slice vo cs.length vc]) := S5.nextX S5.kin S5.cur S5.grew (fun b hb => by
    rcases List.mem_cons.1 hb with rfl | hb
    · exact S5.ex _ (by simp)
    · rcases List.mem_cons.1 hb with rfl | hb
      · exact S5.ex _ (by simp)
      · have h1 := hvl b hb
        exact ⟨by omega, h1.2, by omega, fun hm => by have := (HO3.out.lts _ hm).2; omega⟩)
  go_wp2_with fail
  have up6 : Below w5.heap.size w5 (w5.alloc (.cells #[.int .i64 (kp : Int), .int .i64 (mv : Int), .slice vo cs.length vc] 37)) := (Below.refl _ _).alloc (Nat.le_refl _) _
  have HP6 : Hid (BoxAt (w5.alloc (.cells #[.int .i64 (kp : Int), .int .i64 (mv : Int), .slice vo cs.length vc] 37)) w5.heap.size [.int .i64 (kp : Int), .int .i64 (mv : Int), .slice vo cs.length vc]) := Lib.hid (BoxAt.snoc (BoxAt.snoc (BoxAt.snoc (BoxAt.nil (w := (w5.alloc (.cells #[.int .i64 (kp : Int), .int .i64 (mv : Int), .slice vo cs.length vc] 37))) (g := w5.heap.size) (by go_simp)) (v := .int .i64 (kp : Int)) rfl (by go_simp) (by go_simp)) (v := .int .i64 (mv : Int)) rfl (by go_simp) (by go_simp)) (v := .slice vo cs.length vc) rfl (by go_simp) (by go_simp))
  obtain ⟨gp, hgp⟩ : ∃ q, q = w5.heap.size := ⟨_, rfl⟩
  have S6 : DrSt B w (w5.alloc (.cells #[.int .i64 (kp : Int), .int .i64 (mv : Int), .slice vo cs.length vc] 37)) g w3.heap.size ⟨⟨⟨.slice yco yvs.length ycc, .slice yuo 4 yuc, yvs⟩, .slice yeo 4 yec⟩, .slice yro rf.length yrc⟩ (newK 4 4 rf) (w.heap.size :: (w.heap.size + 1) :: gp :: blocks [.slice vo cs.length vc]) := S5'.other (S := []) (touch_of_below up6 _) (fun b hb => by cases hb) (fun b hb => by
    rcases List.mem_cons.1 hb with rfl | hb
    · exact .inl (by simp)
    · rcases List.mem_cons.1 hb with rfl | hb
      · exact .inl (by simp)
      · rcases List.mem_cons.1 hb with rfl | hb
        · exact .inr ⟨by omega, by simp only [World.size_alloc]; omega⟩
        · exact .inl (List.mem_cons_of_mem _ (List.mem_cons_of_mem _ hb)))
  have HS6 := Lib.hid S6
  have HB6 := Lib.hid ((HB4.out.keep K5 (by simp) (by simp only [World.size_alloc]; exact hz5)).below up6); have HB6' := Lib.hid ((HB4'.out.keep K5 (by simp) (by simp only [World.size_alloc]; exact hz5)).below up6)
  have HV6 : Hid (OwnI w.heap.size (w5.alloc (.cells #[.int .i64 (kp : Int), .int .i64 (mv : Int), .slice vo cs.length vc] 37)) (.slice vo cs.length vc) cs) := Lib.hid (Own.mono (Own.below hvo up6) (by simp only [World.size_alloc]; omega))
  have HD6 := Lib.hid (newK_dinv (kp := kp) (mv := mv) hrx (by omega) hcs hplan hc16)
  rw [← hgp] at HP6
  rw [← hgp]
  obtain ⟨w6, hw6⟩ : ∃ q, q = (w5.alloc (.cells #[.int .i64 (kp : Int), .int .i64 (mv : Int), .slice vo cs.length vc] 37)) := ⟨_, rfl⟩
  rw [← hw6] at HS6 HB6 HB6' HV6 HP6 ⊢
  have HNP : Hid (¬ gp = w.heap.size ∧ ¬ gp = w.heap.size + 1) := Lib.hid ⟨by omega, by omega⟩
  have HEVH : Hid (∀ (y : KV) (K : Ker) (W : World), DrSt B w W g w3.heap.size y K (w.heap.size :: (w.heap.size + 1) :: gp :: blocks [.slice vo cs.length vc]) → Hid (∀ b ∈ blocks [(.slice vo cs.length vc : Value)], b ≠ w.heap.size ∧ b ≠ w.heap.size + 1 ∧ b ∉ blocks y.all)) := Lib.hid (fun y K W h => Lib.hid (fun b hb => ⟨by have := (hvl b hb).1; omega, by have := (hvl b hb).1; omega, (h.ex b (List.mem_cons_of_mem _ (List.mem_cons_of_mem _ (List.mem_cons_of_mem _ hb)))).2.2.2⟩))
  clear hw6 hgp up6 S6 S5' S5 K5 S4 K4 up up2 hvo hcur5 hgr5 hvl HB4 HB4' HB2 HB2' HG2 HC2 HR2 HO3 HB3 hcs hplan
  generalize w3.heap.size = gk at *
  have hc6 : (newK 4 4 rf).calls = 0 := rfl
  refine (s_l08NewT w.heap.size gk _ _ (kp : Int) HD6.out.can _ HS6.out.kin).mono ?_; rintro e w7 ⟨y7, rfl, hk7, hb7, ht7, hf7⟩
  obtain ⟨S7, K7⟩ := HS6.out.kstep hk7 ht7 hf7
  obtain ⟨D7, c7⟩ := mapNew_dinv HD6.out (by omega) (p := kp) (.inl rfl)
  have HS7 := Lib.hid S7; have HD7 := Lib.hid D7; have HK7 := Lib.hid K7
  have hz7 := ht7.size
  have bp7 := HP6.out.keep K7 (List.mem_cons_of_mem _ (List.mem_cons_of_mem _ (List.mem_cons_self ..))) hz7
  have p1 := (bp7.cells 1 _ rfl).1; have xp7 := bp7.lt
  clear S7 D7 K7 hk7 hb7 ht7 hf7 bp7 HS6
  go_wp2_with fail
  refine (s_l08NewT w.heap.size gk y7 _ (mv : Int) HD7.out.can _ HS7.out.kin).mono ?_; rintro e w8 ⟨y8, rfl, hk8, hb8, ht8, hf8⟩
  obtain ⟨S8, K8⟩ := HS7.out.kstep hk8 ht8 hf8
  obtain ⟨D8, c8⟩ := mapNew_dinv HD7.out (by omega) (p := mv) (.inr rfl)
  have hz8 := ht8.size
  have HS8 := Lib.hid S8; have HD8 := Lib.hid D8
  have KK := HK7.out.trans K8
  have HP8 := Lib.hid (HP6.out.keep KK (List.mem_cons_of_mem _ (List.mem_cons_of_mem _ (List.mem_cons_self ..))) (Nat.le_trans hz7 hz8)); have HB8 := Lib.hid (HB6.out.keep KK (List.mem_cons_self ..) (Nat.le_trans hz7 hz8)); have HB8' := Lib.hid (HB6'.out.keep KK (List.mem_cons_of_mem _ (List.mem_cons_self ..)) (Nat.le_trans hz7 hz8))
  have HV8 := Lib.hid (Own.keep HV6.out KK (fun b hb => List.mem_cons_of_mem _ (List.mem_cons_of_mem _ (List.mem_cons_of_mem _ hb))))
  have hc8 : (mapNewS (mapNewS (newK 4 4 rf) kp) mv).calls ≤ 2 := by omega
  obtain ⟨K0, hK0⟩ : ∃ q, q = mapNewS (mapNewS (newK 4 4 rf) kp) mv := ⟨_, rfl⟩
  rw [← hK0] at HS8 HD8 hc8
  clear S8 D8 K8 KK hk8 hb8 ht8 hf8 HS7 HD7 HK7 HP6 HB6 HB6' HV6 HD6 hK0 c7 c8 hc6 p1 xp7
  go_wp2_with fail
  go_loopw [7] (fun i wr => ∃ (k : Nat) (y : KV) (K : Ker), k ≤ 16 ∧ i = .int .i64 (k : Nat) ∧ DInv K kp mv cs ∧ K.calls ≤ 2 ∧ DrSt B w wr g gk y K (w.heap.size :: (w.heap.size + 1) :: gp :: blocks [.slice vo cs.length vc]) ∧ Keep (w.heap.size :: (w.heap.size + 1) :: gp :: blocks [.slice vo cs.length vc]) w8 wr ∧ w8.heap.size ≤ wr.heap.size) (fun i _ => 16 - (intOf i).toNat)
  case atStart => exact ⟨0, y8, K0, Nat.zero_le _, rfl, HD8.out, hc8, HS8.out, fun _ _ => rfl, Nat.le_refl _⟩
  case round =>
    clear HS8 HD8 hc8
    obtain ⟨k, y, K, hk, rfl, hd, hcl, hst, hkp, hsz⟩ := hrel
    have HS := Lib.hid hst; have HD := Lib.hid hd; have HK := Lib.hid hkp
    clear hst hd hkp
    obtain ⟨w1, rfl⟩ : ∃ q, q = wr := ⟨_, rfl⟩
    have bp := HP8.out.keep HK.out (List.mem_cons_of_mem _ (List.mem_cons_of_mem _ (List.mem_cons_self ..))) hsz
    have p0 := (bp.cells 0 _ rfl).1; have p1 := (bp.cells 1 _ rfl).1; have p2 := (bp.cells 2 _ rfl).1; have xp := bp.lt
    clear bp
    by_cases hlt : k < 16
    · have hlt' : (k : Int) < 16 := by omega
      have HCSK := Lib.hid ((Own.keep HV8.out HK.out (fun b hb => List.mem_cons_of_mem _ (List.mem_cons_of_mem _ (List.mem_cons_of_mem _ hb)))).at lenInt)
      cases hb : hasI cs (k : Int)
      · have hh0 := hb
        have HH := Lib.hid hh0
        have hbx := HS.out.kin.box
        have c2 := hbx.c2; have xg := hbx.lt
        clear hbx
        go_wp2_with ((go_at_call 61; (refine (s_l08Has _ cs k _ hh0 _ HCSK.out).mono ?_); rintro e w2 ⟨rfl, rfl⟩))
        refine (s_PageEntry y.m.e K.m.ents kp _ (HS.out.kin.own.m.ents.at lenEnt)).mono ?_; rintro e w9 ⟨rfl, hb9⟩
        obtain ⟨S9, K9⟩ := HS.out.below hb9
        have hz9 := hb9.size
        have HS9 := Lib.hid S9; have HK9 := Lib.hid (HK.out.trans K9)
        clear S9 K9 hb9 c2 xg p0 p1 p2 HS HK
        cases hm : (pageEntry K.m.ents kp).m != 0
        · go_wp2_with fail
          go_roundw
          case rel => exact ⟨k + 1, _, _, by omega, by go_num, HD.out, hcl, HS9.out, HK9.out, by omega⟩
          case measure => simp [intOf]; omega
        · go_wp2_with fail
          refine (s_l01Once B g 3 _ HS9.out.cur).mono ?_; rintro e w10 ⟨r, rfl, hcur10, hgr10⟩
          obtain ⟨S10, K10⟩ := HS9.out.draw hgr10 hcur10
          have hz10 := hgr10.size
          have HS1 := Lib.hid S10; have HK1 := Lib.hid (HK9.out.trans K10)
          clear S10 K10 hgr10 hcur10 HS9 HK9
          cases r
          rotate_left
          · go_wp2_with fail
            go_roundw
            case rel => exact ⟨k + 1, _, _, by omega, by go_num, HD.out, hcl, HS1.out, HK1.out, by omega⟩
            case measure => simp [intOf]; omega
          · obtain ⟨w1, rfl⟩ : ∃ q, q = w10 := ⟨_, rfl⟩
            have HSZ := Lib.hid (mok_sz HD.out.ok)
            have HM1 := Lib.hid (IntWalk.wrap64_in ((kp : Int) * 16) (by omega)); have HM2 := Lib.hid (IntWalk.i64_in ((kp : Int) * 16) (by omega))
            have HM3 := Lib.hid (IntWalk.wrap64_in ((kp : Int) * 16 + (k : Int)) (by omega)); have HM4 := Lib.hid (IntWalk.i64_in ((kp : Int) * 16 + (k : Int)) (by omega))
            go_upto_region 12 with fail
            refine wp_gen (fun a0 ha0 => ?_)
            have hsz : a0.tmps.size = 63 := by rw [ha0]; rfl
            have X0 : ∀ u, (frAll a0 [48, 49, 50, 51, 52, 53, 54, 55, 56, 57, 47, 58, 59, 60] u).tmps.getD 0 undef = .pointer (some ⟨g, 0, none⟩) := fun u => (frAll_other (by decide)).trans (by rw [ha0]; rfl)
            have X4 : ∀ u, (frAll a0 [48, 49, 50, 51, 52, 53, 54, 55, 56, 57, 47, 58, 59, 60] u).tmps.getD 4 undef = .pointer (some ⟨gk, 0, none⟩) := fun u => (frAll_other (by decide)).trans (by rw [ha0]; rfl)
            have X7 : ∀ u, (frAll a0 [48, 49, 50, 51, 52, 53, 54, 55, 56, 57, 47, 58, 59, 60] u).tmps.getD 7 undef = .int .i64 (k : Int) := fun u => (frAll_other (by decide)).trans (by rw [ha0]; rfl)
            have X8 : ∀ u, (frAll a0 [48, 49, 50, 51, 52, 53, 54, 55, 56, 57, 47, 58, 59, 60] u).tmps.getD 8 undef = .int .i64 (kp : Int) := fun u => (frAll_other (by decide)).trans (by rw [ha0]; rfl)
            have E48 : ∀ u, (frAll a0 [48, 49, 50, 51, 52, 53, 54, 55, 56, 57, 47, 58, 59, 60] u).tmps.getD 48 undef = u 48 := fun u => frAll_eval (by decide) (by rw [hsz]; decide)
            have P48 : ∀ u v, (frAll a0 [48, 49, 50, 51, 52, 53, 54, 55, 56, 57, 47, 58, 59, 60] u).put (some 48) v = frAll a0 [48, 49, 50, 51, 52, 53, 54, 55, 56, 57, 47, 58, 59, 60] (frUpd u 48 v) := fun u v => frAll_put v (by decide)
            have E49 : ∀ u, (frAll a0 [48, 49, 50, 51, 52, 53, 54, 55, 56, 57, 47, 58, 59, 60] u).tmps.getD 49 undef = u 49 := fun u => frAll_eval (by decide) (by rw [hsz]; decide)
            have P49 : ∀ u v, (frAll a0 [48, 49, 50, 51, 52, 53, 54, 55, 56, 57, 47, 58, 59, 60] u).put (some 49) v = frAll a0 [48, 49, 50, 51, 52, 53, 54, 55, 56, 57, 47, 58, 59, 60] (frUpd u 49 v) := fun u v => frAll_put v (by decide)
            have E50 : ∀ u, (frAll a0 [48, 49, 50, 51, 52, 53, 54, 55, 56, 57, 47, 58, 59, 60] u).tmps.getD 50 undef = u 50 := fun u => frAll_eval (by decide) (by rw [hsz]; decide)
            have P50 : ∀ u v, (frAll a0 [48, 49, 50, 51, 52, 53, 54, 55, 56, 57, 47, 58, 59, 60] u).put (some 50) v = frAll a0 [48, 49, 50, 51, 52, 53, 54, 55, 56, 57, 47, 58, 59, 60] (frUpd u 50 v) := fun u v => frAll_put v (by decide)
            have E51 : ∀ u, (frAll a0 [48, 49, 50, 51, 52, 53, 54, 55, 56, 57, 47, 58, 59, 60] u).tmps.getD 51 undef = u 51 := fun u => frAll_eval (by decide) (by rw [hsz]; decide)
            have P51 : ∀ u v, (frAll a0 [48, 49, 50, 51, 52, 53, 54, 55, 56, 57, 47, 58, 59, 60] u).put (some 51) v = frAll a0 [48, 49, 50, 51, 52, 53, 54, 55, 56, 57, 47, 58, 59, 60] (frUpd u 51 v) := fun u v => frAll_put v (by decide)
            have E52 : ∀ u, (frAll a0 [48, 49, 50, 51, 52, 53, 54, 55, 56, 57, 47, 58, 59, 60] u).tmps.getD 52 undef = u 52 := fun u => frAll_eval (by decide) (by rw [hsz]; decide)
            have P52 : ∀ u v, (frAll a0 [48, 49, 50, 51, 52, 53, 54, 55, 56, 57, 47, 58, 59, 60] u).put (some 52) v = frAll a0 [48, 49, 50, 51, 52, 53, 54, 55, 56, 57, 47, 58, 59, 60] (frUpd u 52 v) := fun u v => frAll_put v (by decide)
            have E53 : ∀ u, (frAll a0 [48, 49, 50, 51, 52, 53, 54, 55, 56, 57, 47, 58, 59, 60] u).tmps.getD 53 undef = u 53 := fun u => frAll_eval (by decide) (by rw [hsz]; decide)
            have P53 : ∀ u v, (frAll a0 [48, 49, 50, 51, 52, 53, 54, 55, 56, 57, 47, 58, 59, 60] u).put (some 53) v = frAll a0 [48, 49, 50, 51, 52, 53, 54, 55, 56, 57, 47, 58, 59, 60] (frUpd u 53 v) := fun u v => frAll_put v (by decide)
            have E54 : ∀ u, (frAll a0 [48, 49, 50, 51, 52, 53, 54, 55, 56, 57, 47, 58, 59, 60] u).tmps.getD 54 undef = u 54 := fun u => frAll_eval (by decide) (by rw [hsz]; decide)
            have P54 : ∀ u v, (frAll a0 [48, 49, 50, 51, 52, 53, 54, 55, 56, 57, 47, 58, 59, 60] u).put (some 54) v = frAll a0 [48, 49, 50, 51, 52, 53, 54, 55, 56, 57, 47, 58, 59, 60] (frUpd u 54 v) := fun u v => frAll_put v (by decide)
            have E55 : ∀ u, (frAll a0 [48, 49, 50, 51, 52, 53, 54, 55, 56, 57, 47, 58, 59, 60] u).tmps.getD 55 undef = u 55 := fun u => frAll_eval (by decide) (by rw [hsz]; decide)
            have P55 : ∀ u v, (frAll a0 [48, 49, 50, 51, 52, 53, 54, 55, 56, 57, 47, 58, 59, 60] u).put (some 55) v = frAll a0 [48, 49, 50, 51, 52, 53, 54, 55, 56, 57, 47, 58, 59, 60] (frUpd u 55 v) := fun u v => frAll_put v (by decide)
            have E56 : ∀ u, (frAll a0 [48, 49, 50, 51, 52, 53, 54, 55, 56, 57, 47, 58, 59, 60] u).tmps.getD 56 undef = u 56 := fun u => frAll_eval (by decide) (by rw [hsz]; decide)
            have P56 : ∀ u v, (frAll a0 [48, 49, 50, 51, 52, 53, 54, 55, 56, 57, 47, 58, 59, 60] u).put (some 56) v = frAll a0 [48, 49, 50, 51, 52, 53, 54, 55, 56, 57, 47, 58, 59, 60] (frUpd u 56 v) := fun u v => frAll_put v (by decide)
            have E57 : ∀ u, (frAll a0 [48, 49, 50, 51, 52, 53, 54, 55, 56, 57, 47, 58, 59, 60] u).tmps.getD 57 undef = u 57 := fun u => frAll_eval (by decide) (by rw [hsz]; decide)
            have P57 : ∀ u v, (frAll a0 [48, 49, 50, 51, 52, 53, 54, 55, 56, 57, 47, 58, 59, 60] u).put (some 57) v = frAll a0 [48, 49, 50, 51, 52, 53, 54, 55, 56, 57, 47, 58, 59, 60] (frUpd u 57 v) := fun u v => frAll_put v (by decide)
            have E47 : ∀ u, (frAll a0 [48, 49, 50, 51, 52, 53, 54, 55, 56, 57, 47, 58, 59, 60] u).tmps.getD 47 undef = u 47 := fun u => frAll_eval (by decide) (by rw [hsz]; decide)
            have P47 : ∀ u v, (frAll a0 [48, 49, 50, 51, 52, 53, 54, 55, 56, 57, 47, 58, 59, 60] u).put (some 47) v = frAll a0 [48, 49, 50, 51, 52, 53, 54, 55, 56, 57, 47, 58, 59, 60] (frUpd u 47 v) := fun u v => frAll_put v (by decide)
            have E58 : ∀ u, (frAll a0 [48, 49, 50, 51, 52, 53, 54, 55, 56, 57, 47, 58, 59, 60] u).tmps.getD 58 undef = u 58 := fun u => frAll_eval (by decide) (by rw [hsz]; decide)
            have P58 : ∀ u v, (frAll a0 [48, 49, 50, 51, 52, 53, 54, 55, 56, 57, 47, 58, 59, 60] u).put (some 58) v = frAll a0 [48, 49, 50, 51, 52, 53, 54, 55, 56, 57, 47, 58, 59, 60] (frUpd u 58 v) := fun u v => frAll_put v (by decide)
            have E59 : ∀ u, (frAll a0 [48, 49, 50, 51, 52, 53, 54, 55, 56, 57, 47, 58, 59, 60] u).tmps.getD 59 undef = u 59 := fun u => frAll_eval (by decide) (by rw [hsz]; decide)
            have P59 : ∀ u v, (frAll a0 [48, 49, 50, 51, 52, 53, 54, 55, 56, 57, 47, 58, 59, 60] u).put (some 59) v = frAll a0 [48, 49, 50, 51, 52, 53, 54, 55, 56, 57, 47, 58, 59, 60] (frUpd u 59 v) := fun u v => frAll_put v (by decide)
            have E60 : ∀ u, (frAll a0 [48, 49, 50, 51, 52, 53, 54, 55, 56, 57, 47, 58, 59, 60] u).tmps.getD 60 undef = u 60 := fun u => frAll_eval (by decide) (by rw [hsz]; decide)
            have P60 : ∀ u v, (frAll a0 [48, 49, 50, 51, 52, 53, 54, 55, 56, 57, 47, 58, 59, 60] u).put (some 60) v = frAll a0 [48, 49, 50, 51, 52, 53, 54, 55, 56, 57, 47, 58, 59, 60] (frUpd u 60 v) := fun u v => frAll_put v (by decide)
            replace ha0 := Lib.hid ha0
            have HN1 : Hid (gk ∉ [g]) := Lib.hid (fun hm => HS1.out.gne.1 (List.mem_singleton.1 hm).symm)
            have HN2 : Hid (∀ b ∈ blocks y.all, b ∉ [g]) := Lib.hid (fun b hb hm => HS1.out.gne.2.1 (by rw [← List.mem_singleton.1 hm]; exact hb))
            refine wp_region_frame [48, 49, 50, 51, 52, 53, 54, 55, 56, 57, 47, 58, 59, 60] (fun D u wv => ∃ (x : Int) (yco : Option Addr) (ycc : Nat) (yuo : Option Addr) (yuc : Nat) (yvs : List Value) (yeo : Option Addr) (yec : Nat), Hid (D 0 → u 48 = .pointer (some ⟨gk, 0, none⟩)) ∧ Hid (D 1 → u 49 = .agg #[y.m.f.c, y.m.f.u, y.m.e]) ∧ Hid (D 2 → u 50 = .int .i64 (kp : Int)) ∧ Hid (D 3 → u 51 = .int .i64 ((kp : Int) * 16)) ∧ Hid (D 4 → u 52 = .int .i64 (k : Int)) ∧ Hid (D 5 → u 53 = .int .i64 ((kp : Int) * 16 + (k : Int))) ∧ Hid (D 6 → u 54 = .pointer (some ⟨g, 0, none⟩)) ∧ Hid (D 7 → u 55 = .int .i64 x) ∧ Hid (D 8 → u 56 = .int .i64 (1 + x)) ∧ Hid (D 9 → u 57 = .tuple #[.agg #[.slice yco yvs.length ycc, .slice yuo (storeM K.m ((kp : Int) * 16 + (k : Int)) (1 + x)).f.used.length yuc, .slice yeo (storeM K.m ((kp : Int) * 16 + (k : Int)) (1 + x)).ents.length yec], .int .i64 (storeF K.m ((kp : Int) * 16 + (k : Int)) (1 + x))]) ∧ Hid (D 10 → u 47 = .tuple #[.agg #[.slice yco yvs.length ycc, .slice yuo (storeM K.m ((kp : Int) * 16 + (k : Int)) (1 + x)).f.used.length yuc, .slice yeo (storeM K.m ((kp : Int) * 16 + (k : Int)) (1 + x)).ents.length yec], .int .i64 (storeF K.m ((kp : Int) * 16 + (k : Int)) (1 + x))]) ∧ Hid (D 11 → u 58 = .agg #[.slice yco yvs.length ycc, .slice yuo (storeM K.m ((kp : Int) * 16 + (k : Int)) (1 + x)).f.used.length yuc, .slice yeo (storeM K.m ((kp : Int) * 16 + (k : Int)) (1 + x)).ents.length yec]) ∧ Hid (D 12 → u 59 = .int .i64 (storeF K.m ((kp : Int) * 16 + (k : Int)) (1 + x))) ∧ Hid (D 13 → u 60 = .pointer (some ⟨gk, 0, none⟩)) ∧ Hid (¬ D 14 → Touch [g] w1 wv) ∧ Hid (Touch [g, gk] w1 wv) ∧ Hid (Cur B wv g) ∧ Hid (D 9 → MOwn w1.heap.size wv ⟨⟨.slice yco yvs.length ycc, .slice yuo (storeM K.m ((kp : Int) * 16 + (k : Int)) (1 + x)).f.used.length yuc, yvs⟩, .slice yeo (storeM K.m ((kp : Int) * 16 + (k : Int)) (1 + x)).ents.length yec⟩ (storeM K.m ((kp : Int) * 16 + (k : Int)) (1 + x))) ∧ Hid (D 7 → 0 ≤ x ∧ x < 999) ∧ Hid (D 14 → KIn w.heap.size wv gk ⟨⟨⟨.slice yco yvs.length ycc, .slice yuo (storeM K.m ((kp : Int) * 16 + (k : Int)) (1 + x)).f.used.length yuc, yvs⟩, .slice yeo (storeM K.m ((kp : Int) * 16 + (k : Int)) (1 + x)).ents.length yec⟩, y.r⟩ ⟨(storeM K.m ((kp : Int) * 16 + (k : Int)) (1 + x)), K.calls, K.refuse⟩)) (by kernel_rfl) (by kernel_rfl) ?_ ?_ ?_
            · exact ⟨default, default, default, default, default, default, default, default, Lib.hid (fun h => h.elim), Lib.hid (fun h => h.elim), Lib.hid (fun h => h.elim), Lib.hid (fun h => h.elim), Lib.hid (fun h => h.elim), Lib.hid (fun h => h.elim), Lib.hid (fun h => h.elim), Lib.hid (fun h => h.elim), Lib.hid (fun h => h.elim), Lib.hid (fun h => h.elim), Lib.hid (fun h => h.elim), Lib.hid (fun h => h.elim), Lib.hid (fun h => h.elim), Lib.hid (fun h => h.elim), Lib.hid (fun _ => touch_of_below (Below.drew (Below.refl _ _)) _), Lib.hid (touch_of_below (Below.drew (Below.refl _ _)) _), Lib.hid (HS1.out.cur.below (Below.drew (Below.refl _ _))), Lib.hid (fun h => h.elim), Lib.hid (fun h => h.elim), Lib.hid (fun h => h.elim)⟩
            · rintro D u wv ⟨x, yco, ycc, yuo, yuc, yvs, yeo, yec, U0, U1, U2, U3, U4, U5, U6, U7, U8, U9, U10, U11, U12, U13, F1, F2, F3, F4, F5, F6⟩ hcl i hi hn hw
              have hi9 : i < 15 := hi; clear hi
              replace hcl := Lib.hid hcl; replace hw := Lib.hid hw
              rcases (by omega : i = 0 ∨ i = 1 ∨ i = 2 ∨ i = 3 ∨ i = 4 ∨ i = 5 ∨ i = 6 ∨ i = 7 ∨ i = 8 ∨ i = 9 ∨ i = 10 ∨ i = 11 ∨ i = 12 ∨ i = 13 ∨ i = 14) with rfl | rfl | rfl | rfl | rfl | rfl | rfl | rfl | rfl | rfl | rfl | rfl | rfl | rfl | rfl
              · skip
                refine wpOp_step (o := _) rfl (fun KK hKK => ?_)
                rw [if_pos (wanted_nil _ rfl)]
                have E4_ := X4 u
                go_simp
                exact hKK _ _ ⟨_, P48 u _, x, yco, ycc, yuo, yuc, yvs, yeo, yec, Lib.hid (fun _ => frUpd_self), (_root_.Go.Proofs.Ytkkebpcclklmcaa.u10 U1), (_root_.Go.Proofs.Ytkkebpcclklmcaa.u10 U2), (_root_.Go.Proofs.Ytkkebpcclklmcaa.u10 U3), (_root_.Go.Proofs.Ytkkebpcclklmcaa.u10 U4), (_root_.Go.Proofs.Ytkkebpcclklmcaa.u10 U5), (_root_.Go.Proofs.Ytkkebpcclklmcaa.u10 U6), (_root_.Go.Proofs.Ytkkebpcclklmcaa.u10 U7), (_root_.Go.Proofs.Ytkkebpcclklmcaa.u10 U8), (_root_.Go.Proofs.Ytkkebpcclklmcaa.u10 U9), (_root_.Go.Proofs.Ytkkebpcclklmcaa.u10 U10), (_root_.Go.Proofs.Ytkkebpcclklmcaa.u10 U11), (_root_.Go.Proofs.Ytkkebpcclklmcaa.u10 U12), (_root_.Go.Proofs.Ytkkebpcclklmcaa.u10 U13), Lib.hid (fun m => F1.out (fun h => m (addD_mem h))), F2, F3, (_root_.Go.Proofs.Ytkkebpcclklmcaa.k10 F4), (_root_.Go.Proofs.Ytkkebpcclklmcaa.k10 F5), (_root_.Go.Proofs.Ytkkebpcclklmcaa.k10 F6)⟩
              · skip
                refine wpOp_step (o := _) rfl (fun KK hKK => ?_)
                rw [if_pos (wanted_nil _ rfl)]
                have hz : ¬ D 14 := fun h => hn (hcl.out 9 1 (by kernel_rfl) (hcl.out 10 9 (by kernel_rfl) (hcl.out 11 10 (by kernel_rfl) (hcl.out 14 11 (by kernel_rfl) h))))
                have KI : Hid (KIn w.heap.size wv gk y K) := Lib.hid (HS1.out.kin.touchN (F1.out hz) HN1.out HN2.out)
                have hbx := KI.out.box
                have c0 := hbx.c0; have c1 := hbx.c1; have c2 := hbx.c2
                have e48 := U0.out (hw.out 0 (by kernel_rfl)); have E48_ := (E48 u).trans e48
                go_simp
                exact hKK _ _ ⟨_, P49 u _, x, yco, ycc, yuo, yuc, yvs, yeo, yec, (_root_.Go.Proofs.Ytkkebpcclklmcaa.u10 U0), Lib.hid (fun _ => frUpd_self), (_root_.Go.Proofs.Ytkkebpcclklmcaa.u10 U2), (_root_.Go.Proofs.Ytkkebpcclklmcaa.u10 U3), (_root_.Go.Proofs.Ytkkebpcclklmcaa.u10 U4), (_root_.Go.Proofs.Ytkkebpcclklmcaa.u10 U5), (_root_.Go.Proofs.Ytkkebpcclklmcaa.u10 U6), (_root_.Go.Proofs.Ytkkebpcclklmcaa.u10 U7), (_root_.Go.Proofs.Ytkkebpcclklmcaa.u10 U8), (_root_.Go.Proofs.Ytkkebpcclklmcaa.u10 U9), (_root_.Go.Proofs.Ytkkebpcclklmcaa.u10 U10), (_root_.Go.Proofs.Ytkkebpcclklmcaa.u10 U11), (_root_.Go.Proofs.Ytkkebpcclklmcaa.u10 U12), (_root_.Go.Proofs.Ytkkebpcclklmcaa.u10 U13), Lib.hid (fun m => F1.out (fun h => m (addD_mem h))), F2, F3, (_root_.Go.Proofs.Ytkkebpcclklmcaa.k10 F4), (_root_.Go.Proofs.Ytkkebpcclklmcaa.k10 F5), (_root_.Go.Proofs.Ytkkebpcclklmcaa.k10 F6)⟩
              · skip
                refine wpOp_step (o := _) rfl (fun KK hKK => ?_)
                rw [if_pos (wanted_nil _ rfl)]
                have E8_ := X8 u
                go_simp
                exact hKK _ _ ⟨_, P50 u _, x, yco, ycc, yuo, yuc, yvs, yeo, yec, (_root_.Go.Proofs.Ytkkebpcclklmcaa.u10 U0), (_root_.Go.Proofs.Ytkkebpcclklmcaa.u10 U1), Lib.hid (fun _ => frUpd_self), (_root_.Go.Proofs.Ytkkebpcclklmcaa.u10 U3), (_root_.Go.Proofs.Ytkkebpcclklmcaa.u10 U4), (_root_.Go.Proofs.Ytkkebpcclklmcaa.u10 U5), (_root_.Go.Proofs.Ytkkebpcclklmcaa.u10 U6), (_root_.Go.Proofs.Ytkkebpcclklmcaa.u10 U7), (_root_.Go.Proofs.Ytkkebpcclklmcaa.u10 U8), (_root_.Go.Proofs.Ytkkebpcclklmcaa.u10 U9), (_root_.Go.Proofs.Ytkkebpcclklmcaa.u10 U10), (_root_.Go.Proofs.Ytkkebpcclklmcaa.u10 U11), (_root_.Go.Proofs.Ytkkebpcclklmcaa.u10 U12), (_root_.Go.Proofs.Ytkkebpcclklmcaa.u10 U13), Lib.hid (fun m => F1.out (fun h => m (addD_mem h))), F2, F3, (_root_.Go.Proofs.Ytkkebpcclklmcaa.k10 F4), (_root_.Go.Proofs.Ytkkebpcclklmcaa.k10 F5), (_root_.Go.Proofs.Ytkkebpcclklmcaa.k10 F6)⟩
              · skip
                refine wpOp_step (o := _) rfl (fun KK hKK => ?_)
                rw [if_pos (wanted_nil _ rfl)]
                have e50 := U2.out (hw.out 2 (by kernel_rfl)); have E50_ := (E50 u).trans e50
                have m1 := HM1.out; have m2 := HM2.out
                go_simp
                exact hKK _ _ ⟨_, P51 u _, x, yco, ycc, yuo, yuc, yvs, yeo, yec, (_root_.Go.Proofs.Ytkkebpcclklmcaa.u10 U0), (_root_.Go.Proofs.Ytkkebpcclklmcaa.u10 U1), (_root_.Go.Proofs.Ytkkebpcclklmcaa.u10 U2), Lib.hid (fun _ => frUpd_self), (_root_.Go.Proofs.Ytkkebpcclklmcaa.u10 U4), (_root_.Go.Proofs.Ytkkebpcclklmcaa.u10 U5), (_root_.Go.Proofs.Ytkkebpcclklmcaa.u10 U6), (_root_.Go.Proofs.Ytkkebpcclklmcaa.u10 U7), (_root_.Go.Proofs.Ytkkebpcclklmcaa.u10 U8), (_root_.Go.Proofs.Ytkkebpcclklmcaa.u10 U9), (_root_.Go.Proofs.Ytkkebpcclklmcaa.u10 U10), (_root_.Go.Proofs.Ytkkebpcclklmcaa.u10 U11), (_root_.Go.Proofs.Ytkkebpcclklmcaa.u10 U12), (_root_.Go.Proofs.Ytkkebpcclklmcaa.u10 U13), Lib.hid (fun m => F1.out (fun h => m (addD_mem h))), F2, F3, (_root_.Go.Proofs.Ytkkebpcclklmcaa.k10 F4), (_root_.Go.Proofs.Ytkkebpcclklmcaa.k10 F5), (_root_.Go.Proofs.Ytkkebpcclklmcaa.k10 F6)⟩
              · skip
                refine wpOp_step (o := _) rfl (fun KK hKK => ?_)
                rw [if_pos (wanted_nil _ rfl)]
                have E7_ := X7 u
                go_simp
                exact hKK _ _ ⟨_, P52 u _, x, yco, ycc, yuo, yuc, yvs, yeo, yec, (_root_.Go.Proofs.Ytkkebpcclklmcaa.u10 U0), (_root_.Go.Proofs.Ytkkebpcclklmcaa.u10 U1), (_root_.Go.Proofs.Ytkkebpcclklmcaa.u10 U2), (_root_.Go.Proofs.Ytkkebpcclklmcaa.u10 U3), Lib.hid (fun _ => frUpd_self), (_root_.Go.Proofs.Ytkkebpcclklmcaa.u10 U5), (_root_.Go.Proofs.Ytkkebpcclklmcaa.u10 U6), (_root_.Go.Proofs.Ytkkebpcclklmcaa.u10 U7), (_root_.Go.Proofs.Ytkkebpcclklmcaa.u10 U8), (_root_.Go.Proofs.Ytkkebpcclklmcaa.u10 U9), (_root_.Go.Proofs.Ytkkebpcclklmcaa.u10 U10), (_root_.Go.Proofs.Ytkkebpcclklmcaa.u10 U11), (_root_.Go.Proofs.Ytkkebpcclklmcaa.u10 U12), (_root_.Go.Proofs.Ytkkebpcclklmcaa.u10 U13), Lib.hid (fun m => F1.out (fun h => m (addD_mem h))), F2, F3, (_root_.Go.Proofs.Ytkkebpcclklmcaa.k10 F4), (_root_.Go.Proofs.Ytkkebpcclklmcaa.k10 F5), (_root_.Go.Proofs.Ytkkebpcclklmcaa.k10 F6)⟩
              · skip
                refine wpOp_step (o := _) rfl (fun KK hKK => ?_)
                rw [if_pos (wanted_nil _ rfl)]
                have e51 := U3.out (hw.out 3 (by kernel_rfl)); have E51_ := (E51 u).trans e51
                have e52 := U4.out (hw.out 4 (by kernel_rfl)); have E52_ := (E52 u).trans e52
                have m1 := HM3.out; have m2 := HM4.out
                go_simp
                exact hKK _ _ ⟨_, P53 u _, x, yco, ycc, yuo, yuc, yvs, yeo, yec, (_root_.Go.Proofs.Ytkkebpcclklmcaa.u10 U0), (_root_.Go.Proofs.Ytkkebpcclklmcaa.u10 U1), (_root_.Go.Proofs.Ytkkebpcclklmcaa.u10 U2), (_root_.Go.Proofs.Ytkkebpcclklmcaa.u10 U3), (_root_.Go.Proofs.Ytkkebpcclklmcaa.u10 U4), Lib.hid (fun _ => frUpd_self), (_root_.Go.Proofs.Ytkkebpcclklmcaa.u10 U6), (_root_.Go.Proofs.Ytkkebpcclklmcaa.u10 U7), (_root_.Go.Proofs.Ytkkebpcclklmcaa.u10 U8), (_root_.Go.Proofs.Ytkkebpcclklmcaa.u10 U9), (_root_.Go.Proofs.Ytkkebpcclklmcaa.u10 U10), (_root_.Go.Proofs.Ytkkebpcclklmcaa.u10 U11), (_root_.Go.Proofs.Ytkkebpcclklmcaa.u10 U12), (_root_.Go.Proofs.Ytkkebpcclklmcaa.u10 U13), Lib.hid (fun m => F1.out (fun h => m (addD_mem h))), F2, F3, (_root_.Go.Proofs.Ytkkebpcclklmcaa.k10 F4), (_root_.Go.Proofs.Ytkkebpcclklmcaa.k10 F5), (_root_.Go.Proofs.Ytkkebpcclklmcaa.k10 F6)⟩
              · skip
                refine wpOp_step (o := _) rfl (fun KK hKK => ?_)
                rw [if_pos (wanted_nil _ rfl)]
                have E0_ := X0 u
                go_simp
                exact hKK _ _ ⟨_, P54 u _, x, yco, ycc, yuo, yuc, yvs, yeo, yec, (_root_.Go.Proofs.Ytkkebpcclklmcaa.u10 U0), (_root_.Go.Proofs.Ytkkebpcclklmcaa.u10 U1), (_root_.Go.Proofs.Ytkkebpcclklmcaa.u10 U2), (_root_.Go.Proofs.Ytkkebpcclklmcaa.u10 U3), (_root_.Go.Proofs.Ytkkebpcclklmcaa.u10 U4), (_root_.Go.Proofs.Ytkkebpcclklmcaa.u10 U5), Lib.hid (fun _ => frUpd_self), (_root_.Go.Proofs.Ytkkebpcclklmcaa.u10 U7), (_root_.Go.Proofs.Ytkkebpcclklmcaa.u10 U8), (_root_.Go.Proofs.Ytkkebpcclklmcaa.u10 U9), (_root_.Go.Proofs.Ytkkebpcclklmcaa.u10 U10), (_root_.Go.Proofs.Ytkkebpcclklmcaa.u10 U11), (_root_.Go.Proofs.Ytkkebpcclklmcaa.u10 U12), (_root_.Go.Proofs.Ytkkebpcclklmcaa.u10 U13), Lib.hid (fun m => F1.out (fun h => m (addD_mem h))), F2, F3, (_root_.Go.Proofs.Ytkkebpcclklmcaa.k10 F4), (_root_.Go.Proofs.Ytkkebpcclklmcaa.k10 F5), (_root_.Go.Proofs.Ytkkebpcclklmcaa.k10 F6)⟩
              · skip
                refine wpOp_step (o := _) rfl (fun KK hKK => ?_)
                rw [if_pos (wanted_nil _ rfl)]
                have e54 := U6.out (hw.out 6 (by kernel_rfl)); have E54_ := (E54 u).trans e54
                go_simp
                refine (s_l01Below B g _ _ F3.out).mono ?_; rintro e w2 ⟨x2, hx2, rfl, hcur2, hgr2⟩
                have hx3 := hx2.1; have hx4 := hx2.2.1 (by omega); try dsimp only
                exact hKK _ _ ⟨_, P55 u _, x2, yco, ycc, yuo, yuc, yvs, yeo, yec, (_root_.Go.Proofs.Ytkkebpcclklmcaa.u10 U0), (_root_.Go.Proofs.Ytkkebpcclklmcaa.u10 U1), (_root_.Go.Proofs.Ytkkebpcclklmcaa.u10 U2), (_root_.Go.Proofs.Ytkkebpcclklmcaa.u10 U3), (_root_.Go.Proofs.Ytkkebpcclklmcaa.u10 U4), (_root_.Go.Proofs.Ytkkebpcclklmcaa.u10 U5), (_root_.Go.Proofs.Ytkkebpcclklmcaa.u10 U6), Lib.hid (fun _ => frUpd_self), Lib.hid (fun h => absurd (hcl.out 8 7 (by kernel_rfl) (addD_of h (by decide))) hn), Lib.hid (fun h => absurd (hcl.out 8 7 (by kernel_rfl) (hcl.out 9 8 (by kernel_rfl) (addD_of h (by decide)))) hn), Lib.hid (fun h => absurd (hcl.out 8 7 (by kernel_rfl) (hcl.out 9 8 (by kernel_rfl) (hcl.out 10 9 (by kernel_rfl) (addD_of h (by decide))))) hn), Lib.hid (fun h => absurd (hcl.out 8 7 (by kernel_rfl) (hcl.out 9 8 (by kernel_rfl) (hcl.out 10 9 (by kernel_rfl) (hcl.out 11 10 (by kernel_rfl) (addD_of h (by decide)))))) hn), Lib.hid (fun h => absurd (hcl.out 8 7 (by kernel_rfl) (hcl.out 9 8 (by kernel_rfl) (hcl.out 10 9 (by kernel_rfl) (hcl.out 12 10 (by kernel_rfl) (addD_of h (by decide)))))) hn), (_root_.Go.Proofs.Ytkkebpcclklmcaa.u10 U13), Lib.hid (fun m => (F1.out (fun h => m (addD_mem h))).trans (grown_touch hgr2 (fun b hb => by cases hb; simp))), Lib.hid (F2.out.trans (grown_touch hgr2 (fun b hb => by cases hb; simp))), Lib.hid hcur2, Lib.hid (fun h => absurd (hcl.out 8 7 (by kernel_rfl) (hcl.out 9 8 (by kernel_rfl) (addD_of h (by decide)))) hn), Lib.hid (fun _ => ⟨hx3, by omega⟩), Lib.hid (fun h => absurd (hcl.out 8 7 (by kernel_rfl) (hcl.out 9 8 (by kernel_rfl) (hcl.out 10 9 (by kernel_rfl) (hcl.out 11 10 (by kernel_rfl) (hcl.out 14 11 (by kernel_rfl) (addD_of h (by decide))))))) hn)⟩
              · skip
                refine wpOp_step (o := _) rfl (fun KK hKK => ?_)
                rw [if_pos (wanted_nil _ rfl)]
                have e55 := U7.out (hw.out 7 (by kernel_rfl)); have E55_ := (E55 u).trans e55
                have hx5 := F5.out (hw.out 7 (by kernel_rfl)); have m1 : wrap64 (1 + x) = 1 + x := IntWalk.wrap64_in _ (by omega); have m2 : IntKind.i64.wrap (1 + x) = 1 + x := IntWalk.i64_in _ (by omega)
                go_simp
                exact hKK _ _ ⟨_, P56 u _, x, yco, ycc, yuo, yuc, yvs, yeo, yec, (_root_.Go.Proofs.Ytkkebpcclklmcaa.u10 U0), (_root_.Go.Proofs.Ytkkebpcclklmcaa.u10 U1), (_root_.Go.Proofs.Ytkkebpcclklmcaa.u10 U2), (_root_.Go.Proofs.Ytkkebpcclklmcaa.u10 U3), (_root_.Go.Proofs.Ytkkebpcclklmcaa.u10 U4), (_root_.Go.Proofs.Ytkkebpcclklmcaa.u10 U5), (_root_.Go.Proofs.Ytkkebpcclklmcaa.u10 U6), (_root_.Go.Proofs.Ytkkebpcclklmcaa.u10 U7), Lib.hid (fun _ => frUpd_self), (_root_.Go.Proofs.Ytkkebpcclklmcaa.u10 U9), (_root_.Go.Proofs.Ytkkebpcclklmcaa.u10 U10), (_root_.Go.Proofs.Ytkkebpcclklmcaa.u10 U11), (_root_.Go.Proofs.Ytkkebpcclklmcaa.u10 U12), (_root_.Go.Proofs.Ytkkebpcclklmcaa.u10 U13), Lib.hid (fun m => F1.out (fun h => m (addD_mem h))), F2, F3, (_root_.Go.Proofs.Ytkkebpcclklmcaa.k10 F4), (_root_.Go.Proofs.Ytkkebpcclklmcaa.k10 F5), (_root_.Go.Proofs.Ytkkebpcclklmcaa.k10 F6)⟩
              · skip
                refine wpOp_step (o := _) rfl (fun KK hKK => ?_)
                rw [if_pos (wanted_nil _ rfl)]
                have hz : ¬ D 14 := fun h => hn (hcl.out 10 9 (by kernel_rfl) (hcl.out 11 10 (by kernel_rfl) (hcl.out 14 11 (by kernel_rfl) h)))
                have KI : Hid (KIn w.heap.size wv gk y K) := Lib.hid (HS1.out.kin.touchN (F1.out hz) HN1.out HN2.out)
                have e49 := U1.out (hw.out 1 (by kernel_rfl)); have E49_ := (E49 u).trans e49
                have e53 := U5.out (hw.out 5 (by kernel_rfl)); have E53_ := (E53 u).trans e53
                have e56 := U8.out (hw.out 8 (by kernel_rfl)); have E56_ := (E56 u).trans e56
                go_simp
                have hx5 := F5.out (hcl.out 8 7 (by kernel_rfl) (hw.out 8 (by kernel_rfl)))
                refine (s_Store y.m K.m ((kp : Int) * 16 + (k : Int)) (1 + x) HSZ.out (by omega) _ KI.out.own.m.at).mono ?_; rintro e w2 ⟨ym, rfl, hyo, hb⟩
                obtain ⟨zco, zcc, zuo, zuc, zvs, zeo, zec, rfl⟩ := MOwn.shapes hyo; try dsimp only
                exact hKK _ _ ⟨_, P57 u _, x, zco, zcc, zuo, zuc, zvs, zeo, zec, (_root_.Go.Proofs.Ytkkebpcclklmcaa.u10 U0), (_root_.Go.Proofs.Ytkkebpcclklmcaa.u10 U1), (_root_.Go.Proofs.Ytkkebpcclklmcaa.u10 U2), (_root_.Go.Proofs.Ytkkebpcclklmcaa.u10 U3), (_root_.Go.Proofs.Ytkkebpcclklmcaa.u10 U4), (_root_.Go.Proofs.Ytkkebpcclklmcaa.u10 U5), (_root_.Go.Proofs.Ytkkebpcclklmcaa.u10 U6), (_root_.Go.Proofs.Ytkkebpcclklmcaa.u10 U7), (_root_.Go.Proofs.Ytkkebpcclklmcaa.u10 U8), Lib.hid (fun _ => frUpd_self), Lib.hid (fun h => absurd (hcl.out 10 9 (by kernel_rfl) (addD_of h (by decide))) hn), Lib.hid (fun h => absurd (hcl.out 10 9 (by kernel_rfl) (hcl.out 11 10 (by kernel_rfl) (addD_of h (by decide)))) hn), (_root_.Go.Proofs.Ytkkebpcclklmcaa.u10 U12), (_root_.Go.Proofs.Ytkkebpcclklmcaa.u10 U13), Lib.hid (fun m => (F1.out (fun h => m (addD_mem h))).trans (touch_of_below hb _)), Lib.hid (F2.out.trans (touch_of_below hb _)), Lib.hid (F3.out.below hb), Lib.hid (fun _ => hyo.mono F2.out.size), (_root_.Go.Proofs.Ytkkebpcclklmcaa.k10 F5), Lib.hid (fun h => absurd (hcl.out 10 9 (by kernel_rfl) (hcl.out 11 10 (by kernel_rfl) (hcl.out 14 11 (by kernel_rfl) (addD_of h (by decide))))) hn)⟩
              · skip
                refine wpOp_step (o := _) rfl (fun KK hKK => ?_)
                rw [if_pos (wanted_nil _ rfl)]
                have e57 := U9.out (hw.out 9 (by kernel_rfl)); have E57_ := (E57 u).trans e57
                go_simp
                exact hKK _ _ ⟨_, P47 u _, x, yco, ycc, yuo, yuc, yvs, yeo, yec, (_root_.Go.Proofs.Ytkkebpcclklmcaa.u10 U0), (_root_.Go.Proofs.Ytkkebpcclklmcaa.u10 U1), (_root_.Go.Proofs.Ytkkebpcclklmcaa.u10 U2), (_root_.Go.Proofs.Ytkkebpcclklmcaa.u10 U3), (_root_.Go.Proofs.Ytkkebpcclklmcaa.u10 U4), (_root_.Go.Proofs.Ytkkebpcclklmcaa.u10 U5), (_root_.Go.Proofs.Ytkkebpcclklmcaa.u10 U6), (_root_.Go.Proofs.Ytkkebpcclklmcaa.u10 U7), (_root_.Go.Proofs.Ytkkebpcclklmcaa.u10 U8), (_root_.Go.Proofs.Ytkkebpcclklmcaa.u10 U9), Lib.hid (fun _ => frUpd_self), (_root_.Go.Proofs.Ytkkebpcclklmcaa.u10 U11), (_root_.Go.Proofs.Ytkkebpcclklmcaa.u10 U12), (_root_.Go.Proofs.Ytkkebpcclklmcaa.u10 U13), Lib.hid (fun m => F1.out (fun h => m (addD_mem h))), F2, F3, (_root_.Go.Proofs.Ytkkebpcclklmcaa.k10 F4), (_root_.Go.Proofs.Ytkkebpcclklmcaa.k10 F5), (_root_.Go.Proofs.Ytkkebpcclklmcaa.k10 F6)⟩
              · skip
                refine wpOp_step (o := _) rfl (fun KK hKK => ?_)
                rw [if_pos (wanted_nil _ rfl)]
                have e47 := U10.out (hw.out 10 (by kernel_rfl)); have E47_ := (E47 u).trans e47
                go_simp
                exact hKK _ _ ⟨_, P58 u _, x, yco, ycc, yuo, yuc, yvs, yeo, yec, (_root_.Go.Proofs.Ytkkebpcclklmcaa.u10 U0), (_root_.Go.Proofs.Ytkkebpcclklmcaa.u10 U1), (_root_.Go.Proofs.Ytkkebpcclklmcaa.u10 U2), (_root_.Go.Proofs.Ytkkebpcclklmcaa.u10 U3), (_root_.Go.Proofs.Ytkkebpcclklmcaa.u10 U4), (_root_.Go.Proofs.Ytkkebpcclklmcaa.u10 U5), (_root_.Go.Proofs.Ytkkebpcclklmcaa.u10 U6), (_root_.Go.Proofs.Ytkkebpcclklmcaa.u10 U7), (_root_.Go.Proofs.Ytkkebpcclklmcaa.u10 U8), (_root_.Go.Proofs.Ytkkebpcclklmcaa.u10 U9), (_root_.Go.Proofs.Ytkkebpcclklmcaa.u10 U10), Lib.hid (fun _ => frUpd_self), (_root_.Go.Proofs.Ytkkebpcclklmcaa.u10 U12), (_root_.Go.Proofs.Ytkkebpcclklmcaa.u10 U13), Lib.hid (fun m => F1.out (fun h => m (addD_mem h))), F2, F3, (_root_.Go.Proofs.Ytkkebpcclklmcaa.k10 F4), (_root_.Go.Proofs.Ytkkebpcclklmcaa.k10 F5), (_root_.Go.Proofs.Ytkkebpcclklmcaa.k10 F6)⟩
              · skip
                refine wpOp_step (o := _) rfl (fun KK hKK => ?_)
                rw [if_pos (wanted_nil _ rfl)]
                have e47 := U10.out (hw.out 10 (by kernel_rfl)); have E47_ := (E47 u).trans e47
                go_simp
                exact hKK _ _ ⟨_, P59 u _, x, yco, ycc, yuo, yuc, yvs, yeo, yec, (_root_.Go.Proofs.Ytkkebpcclklmcaa.u10 U0), (_root_.Go.Proofs.Ytkkebpcclklmcaa.u10 U1), (_root_.Go.Proofs.Ytkkebpcclklmcaa.u10 U2), (_root_.Go.Proofs.Ytkkebpcclklmcaa.u10 U3), (_root_.Go.Proofs.Ytkkebpcclklmcaa.u10 U4), (_root_.Go.Proofs.Ytkkebpcclklmcaa.u10 U5), (_root_.Go.Proofs.Ytkkebpcclklmcaa.u10 U6), (_root_.Go.Proofs.Ytkkebpcclklmcaa.u10 U7), (_root_.Go.Proofs.Ytkkebpcclklmcaa.u10 U8), (_root_.Go.Proofs.Ytkkebpcclklmcaa.u10 U9), (_root_.Go.Proofs.Ytkkebpcclklmcaa.u10 U10), (_root_.Go.Proofs.Ytkkebpcclklmcaa.u10 U11), Lib.hid (fun _ => frUpd_self), (_root_.Go.Proofs.Ytkkebpcclklmcaa.u10 U13), Lib.hid (fun m => F1.out (fun h => m (addD_mem h))), F2, F3, (_root_.Go.Proofs.Ytkkebpcclklmcaa.k10 F4), (_root_.Go.Proofs.Ytkkebpcclklmcaa.k10 F5), (_root_.Go.Proofs.Ytkkebpcclklmcaa.k10 F6)⟩
              · skip
                refine wpOp_step (o := _) rfl (fun KK hKK => ?_)
                rw [if_pos (wanted_nil _ rfl)]
                have E4_ := X4 u
                go_simp
                exact hKK _ _ ⟨_, P60 u _, x, yco, ycc, yuo, yuc, yvs, yeo, yec, (_root_.Go.Proofs.Ytkkebpcclklmcaa.u10 U0), (_root_.Go.Proofs.Ytkkebpcclklmcaa.u10 U1), (_root_.Go.Proofs.Ytkkebpcclklmcaa.u10 U2), (_root_.Go.Proofs.Ytkkebpcclklmcaa.u10 U3), (_root_.Go.Proofs.Ytkkebpcclklmcaa.u10 U4), (_root_.Go.Proofs.Ytkkebpcclklmcaa.u10 U5), (_root_.Go.Proofs.Ytkkebpcclklmcaa.u10 U6), (_root_.Go.Proofs.Ytkkebpcclklmcaa.u10 U7), (_root_.Go.Proofs.Ytkkebpcclklmcaa.u10 U8), (_root_.Go.Proofs.Ytkkebpcclklmcaa.u10 U9), (_root_.Go.Proofs.Ytkkebpcclklmcaa.u10 U10), (_root_.Go.Proofs.Ytkkebpcclklmcaa.u10 U11), (_root_.Go.Proofs.Ytkkebpcclklmcaa.u10 U12), Lib.hid (fun _ => frUpd_self), Lib.hid (fun m => F1.out (fun h => m (addD_mem h))), F2, F3, (_root_.Go.Proofs.Ytkkebpcclklmcaa.k10 F4), (_root_.Go.Proofs.Ytkkebpcclklmcaa.k10 F5), (_root_.Go.Proofs.Ytkkebpcclklmcaa.k10 F6)⟩
              · skip
                refine wpOp_step (o := _) rfl (fun KK hKK => ?_)
                rw [if_pos (wanted_nil _ rfl)]
                have hz : ¬ D 14 := fun h => hn h
                have KI : Hid (KIn w.heap.size wv gk y K) := Lib.hid (HS1.out.kin.touchN (F1.out hz) HN1.out HN2.out)
                have hbx := KI.out.box; have c0 := hbx.c0; have c1 := hbx.c1; have c2 := hbx.c2; have f0 := hbx.f0; have f1 := hbx.f1; have f2 := hbx.f2; have xg := hbx.lt; clear hbx
                have e60 := U13.out (hw.out 13 (by kernel_rfl)); have E60_ := (E60 u).trans e60
                have e58 := U11.out (hw.out 11 (by kernel_rfl)); have E58_ := (E58 u).trans e58
                go_simp
                have HM := Lib.hid (F4.out (hcl.out 10 9 (by kernel_rfl) (hcl.out 11 10 (by kernel_rfl) (hw.out 11 (by kernel_rfl)))))
                have hne : gk ∉ blocks (MV.all ⟨⟨.slice yco yvs.length ycc, .slice yuo (storeM K.m ((kp : Int) * 16 + (k : Int)) (1 + x)).f.used.length yuc, yvs⟩, .slice yeo (storeM K.m ((kp : Int) * 16 + (k : Int)) (1 + x)).ents.length yec⟩) := fun hm => by have := (HM.out.lts gk hm).1; have := HS1.out.kin.box.lt; omega
                exact hKK _ _ ⟨u, rfl, x, yco, ycc, yuo, yuc, yvs, yeo, yec, (_root_.Go.Proofs.Ytkkebpcclklmcaa.k10 U0), (_root_.Go.Proofs.Ytkkebpcclklmcaa.k10 U1), (_root_.Go.Proofs.Ytkkebpcclklmcaa.k10 U2), (_root_.Go.Proofs.Ytkkebpcclklmcaa.k10 U3), (_root_.Go.Proofs.Ytkkebpcclklmcaa.k10 U4), (_root_.Go.Proofs.Ytkkebpcclklmcaa.k10 U5), (_root_.Go.Proofs.Ytkkebpcclklmcaa.k10 U6), (_root_.Go.Proofs.Ytkkebpcclklmcaa.k10 U7), (_root_.Go.Proofs.Ytkkebpcclklmcaa.k10 U8), (_root_.Go.Proofs.Ytkkebpcclklmcaa.k10 U9), (_root_.Go.Proofs.Ytkkebpcclklmcaa.k10 U10), (_root_.Go.Proofs.Ytkkebpcclklmcaa.k10 U11), (_root_.Go.Proofs.Ytkkebpcclklmcaa.k10 U12), (_root_.Go.Proofs.Ytkkebpcclklmcaa.k10 U13), Lib.hid (fun m => absurd (addD_self 14) m), Lib.hid (touch_setC (touch_setC (touch_setC F2.out (by simp)) (by simp)) (by simp)), Lib.hid (Cur.setN (Cur.setN (Cur.setN F3.out (by have := KI.out.hB; have := HS1.out.cur.1; have := HS1.out.hg; omega) HS1.out.gne.1 _ _) (by have := KI.out.hB; have := HS1.out.cur.1; have := HS1.out.hg; omega) HS1.out.gne.1 _ _) (by have := KI.out.hB; have := HS1.out.cur.1; have := HS1.out.hg; omega) HS1.out.gne.1 _ _), Lib.hid (fun _ => HM.out.touch (S := [gk]) (touch_bx (touch_bx (touch_bx (Touch.refl _ _)))) (fun b hb hm => hne (by rw [← List.mem_singleton.1 hm]; exact hb))), (_root_.Go.Proofs.Ytkkebpcclklmcaa.k10 F5), Lib.hid (fun _ => KIn.setM KI.out HM.out HS1.out.kin.box.lt (fun b hb => (HS1.out.kin.own.lts b (sub_left [y.r] _ b hb)).2) (by have := HS1.out.size; omega))⟩
            · rintro D u wv ⟨x, yco, ycc, yuo, yuc, yvs, yeo, yec, U0, U1, U2, U3, U4, U5, U6, U7, U8, U9, U10, U11, U12, U13, F1, F2, F3, F4, F5, F6⟩ hall9
              have hxr := F5.out (hall9 7 (by show 7 < 15; decide))
              have HKN := Lib.hid (F6.out (hall9 14 (by show 14 < 15; decide)))
              have HMN := Lib.hid (F4.out (hall9 9 (by show 9 < 15; decide)))
              have ha1 := ha0.out; subst ha1
              clear hall9 ha0 hsz HN1 HN2 U0 U1 U2 U3 U4 U5 U6 U7 U8 U9 U10 U11 U12 U13 E48 P48 E49 P49 E50 P50 E51 P51 E52 P52 E53 P53 E54 P54 E55 P55 E56 P56 E57 P57 E47 P47 E58 P58 E59 P59 E60 P60 X0 X4 X7 X8 F1 F4 F5 F6
              obtain ⟨wn, rfl⟩ : ∃ q, q = wv := ⟨_, rfl⟩
              simp only [frAll, frTo, List.setIfInBounds_toArray, List.set_cons_succ, List.set_cons_zero]
              have hT : Touch (g :: gk :: blocks y.all) w1 wn := F2.out.mono (by intro b hb; simp only [List.mem_cons, List.not_mem_nil, or_false] at hb; rcases hb with rfl | rfl <;> simp)
              obtain ⟨SN, KN⟩ := HS1.out.next HKN.out hT (fun b hb => by
                rw [show (KV.all ⟨⟨⟨.slice yco yvs.length ycc, .slice yuo (storeM K.m ((kp : Int) * 16 + (k : Int)) (1 + x)).f.used.length yuc, yvs⟩, .slice yeo (storeM K.m ((kp : Int) * 16 + (k : Int)) (1 + x)).ents.length yec⟩, y.r⟩) = [y.r] ++ MV.all ⟨⟨.slice yco yvs.length ycc, .slice yuo (storeM K.m ((kp : Int) * 16 + (k : Int)) (1 + x)).f.used.length yuc, yvs⟩, .slice yeo (storeM K.m ((kp : Int) * 16 + (k : Int)) (1 + x)).ents.length yec⟩ from rfl, blocks_append, List.mem_append] at hb
                rcases hb with hb | hb
                · exact .inl (sub_left [y.r] _ b hb)
                · exact .inr (HMN.out.lts b hb).1) F3.out
              have IN := store_dinv HD.out (i := k) hlt (1 + x)
              rw [live_out cs k hh0] at IN
              have hzn := hT.size
              go_wp2_with fail
              go_roundw
              case rel => exact ⟨k + 1, _, _, by omega, by go_num, IN, hcl, SN, (HK1.out.trans KN), by omega⟩
              case measure => simp [intOf]; omega
      · have hh1 := hb
        have HH := Lib.hid hh1
        have hbx := HS.out.kin.box
        have c2 := hbx.c2; have xg := hbx.lt
        clear hbx
        go_wp2_with ((go_at_call 61; (refine (s_l08Has _ cs k _ hh1 _ HCSK.out).mono ?_); rintro e w2 ⟨rfl, rfl⟩))
        refine (s_PageEntry y.m.e K.m.ents mv _ (HS.out.kin.own.m.ents.at lenEnt)).mono ?_; rintro e w9 ⟨rfl, hb9⟩
        obtain ⟨S9, K9⟩ := HS.out.below hb9
        have hz9 := hb9.size
        have HS9 := Lib.hid S9; have HK9 := Lib.hid (HK.out.trans K9)
        clear S9 K9 hb9 c2 xg p0 p1 p2 HS HK
        cases hm : (pageEntry K.m.ents mv).m != 0
        · go_wp2_with fail
          go_roundw
          case rel => exact ⟨k + 1, _, _, by omega, by go_num, HD.out, hcl, HS9.out, HK9.out, by omega⟩
          case measure => simp [intOf]; omega
        · go_wp2_with fail
          refine (s_l01Once B g 3 _ HS9.out.cur).mono ?_; rintro e w10 ⟨r, rfl, hcur10, hgr10⟩
          obtain ⟨S10, K10⟩ := HS9.out.draw hgr10 hcur10
          have hz10 := hgr10.size
          have HS1 := Lib.hid S10; have HK1 := Lib.hid (HK9.out.trans K10)
          clear S10 K10 hgr10 hcur10 HS9 HK9
          cases r
          rotate_left
          · go_wp2_with fail
            go_roundw
            case rel => exact ⟨k + 1, _, _, by omega, by go_num, HD.out, hcl, HS1.out, HK1.out, by omega⟩
            case measure => simp [intOf]; omega
          · obtain ⟨w1, rfl⟩ : ∃ q, q = w10 := ⟨_, rfl⟩
            have HSZ := Lib.hid (mok_sz HD.out.ok)
            have HM1 := Lib.hid (IntWalk.wrap64_in ((mv : Int) * 16) (by omega)); have HM2 := Lib.hid (IntWalk.i64_in ((mv : Int) * 16) (by omega))
            have HM3 := Lib.hid (IntWalk.wrap64_in ((mv : Int) * 16 + (k : Int)) (by omega)); have HM4 := Lib.hid (IntWalk.i64_in ((mv : Int) * 16 + (k : Int)) (by omega))
            go_upto_region 12 with fail
            refine wp_gen (fun a0 ha0 => ?_)
            have hsz : a0.tmps.size = 63 := by rw [ha0]; rfl
            have X0 : ∀ u, (frAll a0 [48, 49, 50, 51, 52, 53, 54, 55, 56, 57, 47, 58, 59, 60] u).tmps.getD 0 undef = .pointer (some ⟨g, 0, none⟩) := fun u => (frAll_other (by decide)).trans (by rw [ha0]; rfl)
            have X4 : ∀ u, (frAll a0 [48, 49, 50, 51, 52, 53, 54, 55, 56, 57, 47, 58, 59, 60] u).tmps.getD 4 undef = .pointer (some ⟨gk, 0, none⟩) := fun u => (frAll_other (by decide)).trans (by rw [ha0]; rfl)
            have X7 : ∀ u, (frAll a0 [48, 49, 50, 51, 52, 53, 54, 55, 56, 57, 47, 58, 59, 60] u).tmps.getD 7 undef = .int .i64 (k : Int) := fun u => (frAll_other (by decide)).trans (by rw [ha0]; rfl)
            have X8 : ∀ u, (frAll a0 [48, 49, 50, 51, 52, 53, 54, 55, 56, 57, 47, 58, 59, 60] u).tmps.getD 8 undef = .int .i64 (mv : Int) := fun u => (frAll_other (by decide)).trans (by rw [ha0]; rfl)
            have E48 : ∀ u, (frAll a0 [48, 49, 50, 51, 52, 53, 54, 55, 56, 57, 47, 58, 59, 60] u).tmps.getD 48 undef = u 48 := fun u => frAll_eval (by decide) (by rw [hsz]; decide)
            have P48 : ∀ u v, (frAll a0 [48, 49, 50, 51, 52, 53, 54, 55, 56, 57, 47, 58, 59, 60] u).put (some 48) v = frAll a0 [48, 49, 50, 51, 52, 53, 54, 55, 56, 57, 47, 58, 59, 60] (frUpd u 48 v) := fun u v => frAll_put v (by decide)
            have E49 : ∀ u, (frAll a0 [48, 49, 50, 51, 52, 53, 54, 55, 56, 57, 47, 58, 59, 60] u).tmps.getD 49 undef = u 49 := fun u => frAll_eval (by decide) (by rw [hsz]; decide)
            have P49 : ∀ u v, (frAll a0 [48, 49, 50, 51, 52, 53, 54, 55, 56, 57, 47, 58, 59, 60] u).put (some 49) v = frAll a0 [48, 49, 50, 51, 52, 53, 54, 55, 56, 57, 47, 58, 59, 60] (frUpd u 49 v) := fun u v => frAll_put v (by decide)
            have E50 : ∀ u, (frAll a0 [48, 49, 50, 51, 52, 53, 54, 55, 56, 57, 47, 58, 59, 60] u).tmps.getD 50 undef = u 50 := fun u => frAll_eval (by decide) (by rw [hsz]; decide)
            have P50 : ∀ u v, (frAll a0 [48, 49, 50, 51, 52, 53, 54, 55, 56, 57, 47, 58, 59, 60] u).put (some 50) v = frAll a0 [48, 49, 50, 51, 52, 53, 54, 55, 56, 57, 47, 58, 59, 60] (frUpd u 50 v) := fun u v => frAll_put v (by decide)
            have E51 : ∀ u, (frAll a0 [48, 49, 50, 51, 52, 53, 54, 55, 56, 57, 47, 58, 59, 60] u).tmps.getD 51 undef = u 51 := fun u => frAll_eval (by decide) (by rw [hsz]; decide)
            have P51 : ∀ u v, (frAll a0 [48, 49, 50, 51, 52, 53, 54, 55, 56, 57, 47, 58, 59, 60] u).put (some 51) v = frAll a0 [48, 49, 50, 51, 52, 53, 54, 55, 56, 57, 47, 58, 59, 60] (frUpd u 51 v) := fun u v => frAll_put v (by decide)
            have E52 : ∀ u, (frAll a0 [48, 49, 50, 51, 52, 53, 54, 55, 56, 57, 47, 58, 59, 60] u).tmps.getD 52 undef = u 52 := fun u => frAll_eval (by decide) (by rw [hsz]; decide)
            have P52 : ∀ u v, (frAll a0 [48, 49, 50, 51, 52, 53, 54, 55, 56, 57, 47, 58, 59, 60] u).put (some 52) v = frAll a0 [48, 49, 50, 51, 52, 53, 54, 55, 56, 57, 47, 58, 59, 60] (frUpd u 52 v) := fun u v => frAll_put v (by decide)
            have E53 : ∀ u, (frAll a0 [48, 49, 50, 51, 52, 53, 54, 55, 56, 57, 47, 58, 59, 60] u).tmps.getD 53 undef = u 53 := fun u => frAll_eval (by decide) (by rw [hsz]; decide)
            have P53 : ∀ u v, (frAll a0 [48, 49, 50, 51, 52, 53, 54, 55, 56, 57, 47, 58, 59, 60] u).put (some 53) v = frAll a0 [48, 49, 50, 51, 52, 53, 54, 55, 56, 57, 47, 58, 59, 60] (frUpd u 53 v) := fun u v => frAll_put v (by decide)
            have E54 : ∀ u, (frAll a0 [48, 49, 50, 51, 52, 53, 54, 55, 56, 57, 47, 58, 59, 60] u).tmps.getD 54 undef = u 54 := fun u => frAll_eval (by decide) (by rw [hsz]; decide)
            have P54 : ∀ u v, (frAll a0 [48, 49, 50, 51, 52, 53, 54, 55, 56, 57, 47, 58, 59, 60] u).put (some 54) v = frAll a0 [48, 49, 50, 51, 52, 53, 54, 55, 56, 57, 47, 58, 59, 60] (frUpd u 54 v) := fun u v => frAll_put v (by decide)
            have E55 : ∀ u, (frAll a0 [48, 49, 50, 51, 52, 53, 54, 55, 56, 57, 47, 58, 59, 60] u).tmps.getD 55 undef = u 55 := fun u => frAll_eval (by decide) (by rw [hsz]; decide)
            have P55 : ∀ u v, (frAll a0 [48, 49, 50, 51, 52, 53, 54, 55, 56, 57, 47, 58, 59, 60] u).put (some 55) v = frAll a0 [48, 49, 50, 51, 52, 53, 54, 55, 56, 57, 47, 58, 59, 60] (frUpd u 55 v) := fun u v => frAll_put v (by decide)
            have E56 : ∀ u, (frAll a0 [48, 49, 50, 51, 52, 53, 54, 55, 56, 57, 47, 58, 59, 60] u).tmps.getD 56 undef = u 56 := fun u => frAll_eval (by decide) (by rw [hsz]; decide)
            have P56 : ∀ u v, (frAll a0 [48, 49, 50, 51, 52, 53, 54, 55, 56, 57, 47, 58, 59, 60] u).put (some 56) v = frAll a0 [48, 49, 50, 51, 52, 53, 54, 55, 56, 57, 47, 58, 59, 60] (frUpd u 56 v) := fun u v => frAll_put v (by decide)
            have E57 : ∀ u, (frAll a0 [48, 49, 50, 51, 52, 53, 54, 55, 56, 57, 47, 58, 59, 60] u).tmps.getD 57 undef = u 57 := fun u => frAll_eval (by decide) (by rw [hsz]; decide)
            have P57 : ∀ u v, (frAll a0 [48, 49, 50, 51, 52, 53, 54, 55, 56, 57, 47, 58, 59, 60] u).put (some 57) v = frAll a0 [48, 49, 50, 51, 52, 53, 54, 55, 56, 57, 47, 58, 59, 60] (frUpd u 57 v) := fun u v => frAll_put v (by decide)
            have E47 : ∀ u, (frAll a0 [48, 49, 50, 51, 52, 53, 54, 55, 56, 57, 47, 58, 59, 60] u).tmps.getD 47 undef = u 47 := fun u => frAll_eval (by decide) (by rw [hsz]; decide)
            have P47 : ∀ u v, (frAll a0 [48, 49, 50, 51, 52, 53, 54, 55, 56, 57, 47, 58, 59, 60] u).put (some 47) v = frAll a0 [48, 49, 50, 51, 52, 53, 54, 55, 56, 57, 47, 58, 59, 60] (frUpd u 47 v) := fun u v => frAll_put v (by decide)
            have E58 : ∀ u, (frAll a0 [48, 49, 50, 51, 52, 53, 54, 55, 56, 57, 47, 58, 59, 60] u).tmps.getD 58 undef = u 58 := fun u => frAll_eval (by decide) (by rw [hsz]; decide)
            have P58 : ∀ u v, (frAll a0 [48, 49, 50, 51, 52, 53, 54, 55, 56, 57, 47, 58, 59, 60] u).put (some 58) v = frAll a0 [48, 49, 50, 51, 52, 53, 54, 55, 56, 57, 47, 58, 59, 60] (frUpd u 58 v) := fun u v => frAll_put v (by decide)
            have E59 : ∀ u, (frAll a0 [48, 49, 50, 51, 52, 53, 54, 55, 56, 57, 47, 58, 59, 60] u).tmps.getD 59 undef = u 59 := fun u => frAll_eval (by decide) (by rw [hsz]; decide)
            have P59 : ∀ u v, (frAll a0 [48, 49, 50, 51, 52, 53, 54, 55, 56, 57, 47, 58, 59, 60] u).put (some 59) v = frAll a0 [48, 49, 50, 51, 52, 53, 54, 55, 56, 57, 47, 58, 59, 60] (frUpd u 59 v) := fun u v => frAll_put v (by decide)
            have E60 : ∀ u, (frAll a0 [48, 49, 50, 51, 52, 53, 54, 55, 56, 57, 47, 58, 59, 60] u).tmps.getD 60 undef = u 60 := fun u => frAll_eval (by decide) (by rw [hsz]; decide)
            have P60 : ∀ u v, (frAll a0 [48, 49, 50, 51, 52, 53, 54, 55, 56, 57, 47, 58, 59, 60] u).put (some 60) v = frAll a0 [48, 49, 50, 51, 52, 53, 54, 55, 56, 57, 47, 58, 59, 60] (frUpd u 60 v) := fun u v => frAll_put v (by decide)
            replace ha0 := Lib.hid ha0
            have HN1 : Hid (gk ∉ [g]) := Lib.hid (fun hm => HS1.out.gne.1 (List.mem_singleton.1 hm).symm)
            have HN2 : Hid (∀ b ∈ blocks y.all, b ∉ [g]) := Lib.hid (fun b hb hm => HS1.out.gne.2.1 (by rw [← List.mem_singleton.1 hm]; exact hb))
            refine wp_region_frame [48, 49, 50, 51, 52, 53, 54, 55, 56, 57, 47, 58, 59, 60] (fun D u wv => ∃ (x : Int) (yco : Option Addr) (ycc : Nat) (yuo : Option Addr) (yuc : Nat) (yvs : List Value) (yeo : Option Addr) (yec : Nat), Hid (D 0 → u 48 = .pointer (some ⟨gk, 0, none⟩)) ∧ Hid (D 1 → u 49 = .agg #[y.m.f.c, y.m.f.u, y.m.e]) ∧ Hid (D 2 → u 50 = .int .i64 (mv : Int)) ∧ Hid (D 3 → u 51 = .int .i64 ((mv : Int) * 16)) ∧ Hid (D 4 → u 52 = .int .i64 (k : Int)) ∧ Hid (D 5 → u 53 = .int .i64 ((mv : Int) * 16 + (k : Int))) ∧ Hid (D 6 → u 54 = .pointer (some ⟨g, 0, none⟩)) ∧ Hid (D 7 → u 55 = .int .i64 x) ∧ Hid (D 8 → u 56 = .int .i64 (1 + x)) ∧ Hid (D 9 → u 57 = .tuple #[.agg #[.slice yco yvs.length ycc, .slice yuo (storeM K.m ((mv : Int) * 16 + (k : Int)) (1 + x)).f.used.length yuc, .slice yeo (storeM K.m ((mv : Int) * 16 + (k : Int)) (1 + x)).ents.length yec], .int .i64 (storeF K.m ((mv : Int) * 16 + (k : Int)) (1 + x))]) ∧ Hid (D 10 → u 47 = .tuple #[.agg #[.slice yco yvs.length ycc, .slice yuo (storeM K.m ((mv : Int) * 16 + (k : Int)) (1 + x)).f.used.length yuc, .slice yeo (storeM K.m ((mv : Int) * 16 + (k : Int)) (1 + x)).ents.length yec], .int .i64 (storeF K.m ((mv : Int) * 16 + (k : Int)) (1 + x))]) ∧ Hid (D 11 → u 58 = .agg #[.slice yco yvs.length ycc, .slice yuo (storeM K.m ((mv : Int) * 16 + (k : Int)) (1 + x)).f.used.length yuc, .slice yeo (storeM K.m ((mv : Int) * 16 + (k : Int)) (1 + x)).ents.length yec]) ∧ Hid (D 12 → u 59 = .int .i64 (storeF K.m ((mv : Int) * 16 + (k : Int)) (1 + x))) ∧ Hid (D 13 → u 60 = .pointer (some ⟨gk, 0, none⟩)) ∧ Hid (¬ D 14 → Touch [g] w1 wv) ∧ Hid (Touch [g, gk] w1 wv) ∧ Hid (Cur B wv g) ∧ Hid (D 9 → MOwn w1.heap.size wv ⟨⟨.slice yco yvs.length ycc, .slice yuo (storeM K.m ((mv : Int) * 16 + (k : Int)) (1 + x)).f.used.length yuc, yvs⟩, .slice yeo (storeM K.m ((mv : Int) * 16 + (k : Int)) (1 + x)).ents.length yec⟩ (storeM K.m ((mv : Int) * 16 + (k : Int)) (1 + x))) ∧ Hid (D 7 → 0 ≤ x ∧ x < 999) ∧ Hid (D 14 → KIn w.heap.size wv gk ⟨⟨⟨.slice yco yvs.length ycc, .slice yuo (storeM K.m ((mv : Int) * 16 + (k : Int)) (1 + x)).f.used.length yuc, yvs⟩, .slice yeo (storeM K.m ((mv : Int) * 16 + (k : Int)) (1 + x)).ents.length yec⟩, y.r⟩ ⟨(storeM K.m ((mv : Int) * 16 + (k : Int)) (1 + x)), K.calls, K.refuse⟩)) (by kernel_rfl) (by kernel_rfl) ?_ ?_ ?_
            · exact ⟨default, default, default, default, default, default, default, default, Lib.hid (fun h => h.elim), Lib.hid (fun h => h.elim), Lib.hid (fun h => h.elim), Lib.hid (fun h => h.elim), Lib.hid (fun h => h.elim), Lib.hid (fun h => h.elim), Lib.hid (fun h => h.elim), Lib.hid (fun h => h.elim), Lib.hid (fun h => h.elim), Lib.hid (fun h => h.elim), Lib.hid (fun h => h.elim), Lib.hid (fun h => h.elim), Lib.hid (fun h => h.elim), Lib.hid (fun h => h.elim), Lib.hid (fun _ => touch_of_below (Below.drew (Below.refl _ _)) _), Lib.hid (touch_of_below (Below.drew (Below.refl _ _)) _), Lib.hid (HS1.out.cur.below (Below.drew (Below.refl _ _))), Lib.hid (fun h => h.elim), Lib.hid (fun h => h.elim), Lib.hid (fun h => h.elim)⟩
            · rintro D u wv ⟨x, yco, ycc, yuo, yuc, yvs, yeo, yec, U0, U1, U2, U3, U4, U5, U6, U7, U8, U9, U10, U11, U12, U13, F1, F2, F3, F4, F5, F6⟩ hcl i hi hn hw
              have hi9 : i < 15 := hi; clear hi
              replace hcl := Lib.hid hcl; replace hw := Lib.hid hw
              rcases (by omega : i = 0 ∨ i = 1 ∨ i = 2 ∨ i = 3 ∨ i = 4 ∨ i = 5 ∨ i = 6 ∨ i = 7 ∨ i = 8 ∨ i = 9 ∨ i = 10 ∨ i = 11 ∨ i = 12 ∨ i = 13 ∨ i = 14) with rfl | rfl | rfl | rfl | rfl | rfl | rfl | rfl | rfl | rfl | rfl | rfl | rfl | rfl | rfl
              · skip
                refine wpOp_step (o := _) rfl (fun KK hKK => ?_)
                rw [if_pos (wanted_nil _ rfl)]
                have E4_ := X4 u
                go_simp
                exact hKK _ _ ⟨_, P48 u _, x, yco, ycc, yuo, yuc, yvs, yeo, yec, Lib.hid (fun _ => frUpd_self), (_root_.Go.Proofs.Ytkkebpcclklmcaa.u10 U1), (_root_.Go.Proofs.Ytkkebpcclklmcaa.u10 U2), (_root_.Go.Proofs.Ytkkebpcclklmcaa.u10 U3), (_root_.Go.Proofs.Ytkkebpcclklmcaa.u10 U4), (_root_.Go.Proofs.Ytkkebpcclklmcaa.u10 U5), (_root_.Go.Proofs.Ytkkebpcclklmcaa.u10 U6), (_root_.Go.Proofs.Ytkkebpcclklmcaa.u10 U7), (_root_.Go.Proofs.Ytkkebpcclklmcaa.u10 U8), (_root_.Go.Proofs.Ytkkebpcclklmcaa.u10 U9), (_root_.Go.Proofs.Ytkkebpcclklmcaa.u10 U10), (_root_.Go.Proofs.Ytkkebpcclklmcaa.u10 U11), (_root_.Go.Proofs.Ytkkebpcclklmcaa.u10 U12), (_root_.Go.Proofs.Ytkkebpcclklmcaa.u10 U13), Lib.hid (fun m => F1.out (fun h => m (addD_mem h))), F2, F3, (_root_.Go.Proofs.Ytkkebpcclklmcaa.k10 F4), (_root_.Go.Proofs.Ytkkebpcclklmcaa.k10 F5), (_root_.Go.Proofs.Ytkkebpcclklmcaa.k10 F6)⟩
              · skip
                refine wpOp_step (o := _) rfl (fun KK hKK => ?_)
                rw [if_pos (wanted_nil _ rfl)]
                have hz : ¬ D 14 := fun h => hn (hcl.out 9 1 (by kernel_rfl) (hcl.out 10 9 (by kernel_rfl) (hcl.out 11 10 (by kernel_rfl) (hcl.out 14 11 (by kernel_rfl) h))))
                have KI : Hid (KIn w.heap.size wv gk y K) := Lib.hid (HS1.out.kin.touchN (F1.out hz) HN1.out HN2.out)
                have hbx := KI.out.box
                have c0 := hbx.c0; have c1 := hbx.c1; have c2 := hbx.c2
                have e48 := U0.out (hw.out 0 (by kernel_rfl)); have E48_ := (E48 u).trans e48
                go_simp
                exact hKK _ _ ⟨_, P49 u _, x, yco, ycc, yuo, yuc, yvs, yeo, yec, (_root_.Go.Proofs.Ytkkebpcclklmcaa.u10 U0), Lib.hid (fun _ => frUpd_self), (_root_.Go.Proofs.Ytkkebpcclklmcaa.u10 U2), (_root_.Go.Proofs.Ytkkebpcclklmcaa.u10 U3), (_root_.Go.Proofs.Ytkkebpcclklmcaa.u10 U4), (_root_.Go.Proofs.Ytkkebpcclklmcaa.u10 U5), (_root_.Go.Proofs.Ytkkebpcclklmcaa.u10 U6), (_root_.Go.Proofs.Ytkkebpcclklmcaa.u10 U7), (_root_.Go.Proofs.Ytkkebpcclklmcaa.u10 U8), (_root_.Go.Proofs.Ytkkebpcclklmcaa.u10 U9), (_root_.Go.Proofs.Ytkkebpcclklmcaa.u10 U10), (_root_.Go.Proofs.Ytkkebpcclklmcaa.u10 U11), (_root_.Go.Proofs.Ytkkebpcclklmcaa.u10 U12), (_root_.Go.Proofs.Ytkkebpcclklmcaa.u10 U13), Lib.hid (fun m => F1.out (fun h => m (addD_mem h))), F2, F3, (_root_.Go.Proofs.Ytkkebpcclklmcaa.k10 F4), (_root_.Go.Proofs.Ytkkebpcclklmcaa.k10 F5), (_root_.Go.Proofs.Ytkkebpcclklmcaa.k10 F6)⟩
              · skip
                refine wpOp_step (o := _) rfl (fun KK hKK => ?_)
                rw [if_pos (wanted_nil _ rfl)]
                have E8_ := X8 u
                go_simp
                exact hKK _ _ ⟨_, P50 u _, x, yco, ycc, yuo, yuc, yvs, yeo, yec, (_root_.Go.Proofs.Ytkkebpcclklmcaa.u10 U0), (_root_.Go.Proofs.Ytkkebpcclklmcaa.u10 U1), Lib.hid (fun _ => frUpd_self), (_root_.Go.Proofs.Ytkkebpcclklmcaa.u10 U3), (_root_.Go.Proofs.Ytkkebpcclklmcaa.u10 U4), (_root_.Go.Proofs.Ytkkebpcclklmcaa.u10 U5), (_root_.Go.Proofs.Ytkkebpcclklmcaa.u10 U6), (_root_.Go.Proofs.Ytkkebpcclklmcaa.u10 U7), (_root_.Go.Proofs.Ytkkebpcclklmcaa.u10 U8), (_root_.Go.Proofs.Ytkkebpcclklmcaa.u10 U9), (_root_.Go.Proofs.Ytkkebpcclklmcaa.u10 U10), (_root_.Go.Proofs.Ytkkebpcclklmcaa.u10 U11), (_root_.Go.Proofs.Ytkkebpcclklmcaa.u10 U12), (_root_.Go.Proofs.Ytkkebpcclklmcaa.u10 U13), Lib.hid (fun m => F1.out (fun h => m (addD_mem h))), F2, F3, (_root_.Go.Proofs.Ytkkebpcclklmcaa.k10 F4), (_root_.Go.Proofs.Ytkkebpcclklmcaa.k10 F5), (_root_.Go.Proofs.Ytkkebpcclklmcaa.k10 F6)⟩
              · skip
                refine wpOp_step (o := _) rfl (fun KK hKK => ?_)
                rw [if_pos (wanted_nil _ rfl)]
                have e50 := U2.out (hw.out 2 (by kernel_rfl)); have E50_ := (E50 u).trans e50
                have m1 := HM1.out; have m2 := HM2.out
                go_simp
                exact hKK _ _ ⟨_, P51 u _, x, yco, ycc, yuo, yuc, yvs, yeo, yec, (_root_.Go.Proofs.Ytkkebpcclklmcaa.u10 U0), (_root_.Go.Proofs.Ytkkebpcclklmcaa.u10 U1), (_root_.Go.Proofs.Ytkkebpcclklmcaa.u10 U2), Lib.hid (fun _ => frUpd_self), (_root_.Go.Proofs.Ytkkebpcclklmcaa.u10 U4), (_root_.Go.Proofs.Ytkkebpcclklmcaa.u10 U5), (_root_.Go.Proofs.Ytkkebpcclklmcaa.u10 U6), (_root_.Go.Proofs.Ytkkebpcclklmcaa.u10 U7), (_root_.Go.Proofs.Ytkkebpcclklmcaa.u10 U8), (_root_.Go.Proofs.Ytkkebpcclklmcaa.u10 U9), (_root_.Go.Proofs.Ytkkebpcclklmcaa.u10 U10), (_root_.Go.Proofs.Ytkkebpcclklmcaa.u10 U11), (_root_.Go.Proofs.Ytkkebpcclklmcaa.u10 U12), (_root_.Go.Proofs.Ytkkebpcclklmcaa.u10 U13), Lib.hid (fun m => F1.out (fun h => m (addD_mem h))), F2, F3, (_root_.Go.Proofs.Ytkkebpcclklmcaa.k10 F4), (_root_.Go.Proofs.Ytkkebpcclklmcaa.k10 F5), (_root_.Go.Proofs.Ytkkebpcclklmcaa.k10 F6)⟩
              · skip
                refine wpOp_step (o := _) rfl (fun KK hKK => ?_)
                rw [if_pos (wanted_nil _ rfl)]
                have E7_ := X7 u
                go_simp
                exact hKK _ _ ⟨_, P52 u _, x, yco, ycc, yuo, yuc, yvs, yeo, yec, (_root_.Go.Proofs.Ytkkebpcclklmcaa.u10 U0), (_root_.Go.Proofs.Ytkkebpcclklmcaa.u10 U1), (_root_.Go.Proofs.Ytkkebpcclklmcaa.u10 U2), (_root_.Go.Proofs.Ytkkebpcclklmcaa.u10 U3), Lib.hid (fun _ => frUpd_self), (_root_.Go.Proofs.Ytkkebpcclklmcaa.u10 U5), (_root_.Go.Proofs.Ytkkebpcclklmcaa.u10 U6), (_root_.Go.Proofs.Ytkkebpcclklmcaa.u10 U7), (_root_.Go.Proofs.Ytkkebpcclklmcaa.u10 U8), (_root_.Go.Proofs.Ytkkebpcclklmcaa.u10 U9), (_root_.Go.Proofs.Ytkkebpcclklmcaa.u10 U10), (_root_.Go.Proofs.Ytkkebpcclklmcaa.u10 U11), (_root_.Go.Proofs.Ytkkebpcclklmcaa.u10 U12), (_root_.Go.Proofs.Ytkkebpcclklmcaa.u10 U13), Lib.hid (fun m => F1.out (fun h => m (addD_mem h))), F2, F3, (_root_.Go.Proofs.Ytkkebpcclklmcaa.k10 F4), (_root_.Go.Proofs.Ytkkebpcclklmcaa.k10 F5), (_root_.Go.Proofs.Ytkkebpcclklmcaa.k10 F6)⟩
              · skip
                refine wpOp_step (o := _) rfl (fun KK hKK => ?_)
                rw [if_pos (wanted_nil _ rfl)]
                have e51 := U3.out (hw.out 3 (by kernel_rfl)); have E51_ := (E51 u).trans e51
                have e52 := U4.out (hw.out 4 (by kernel_rfl)); have E52_ := (E52 u).trans e52
                have m1 := HM3.out; have m2 := HM4.out
                go_simp
                exact hKK _ _ ⟨_, P53 u _, x, yco, ycc, yuo, yuc, yvs, yeo, yec, (_root_.Go.Proofs.Ytkkebpcclklmcaa.u10 U0), (_root_.Go.Proofs.Ytkkebpcclklmcaa.u10 U1), (_root_.Go.Proofs.Ytkkebpcclklmcaa.u10 U2), (_root_.Go.Proofs.Ytkkebpcclklmcaa.u10 U3), (_root_.Go.Proofs.Ytkkebpcclklmcaa.u10 U4), Lib.hid (fun _ => frUpd_self), (_root_.Go.Proofs.Ytkkebpcclklmcaa.u10 U6), (_root_.Go.Proofs.Ytkkebpcclklmcaa.u10 U7), (_root_.Go.Proofs.Ytkkebpcclklmcaa.u10 U8), (_root_.Go.Proofs.Ytkkebpcclklmcaa.u10 U9), (_root_.Go.Proofs.Ytkkebpcclklmcaa.u10 U10), (_root_.Go.Proofs.Ytkkebpcclklmcaa.u10 U11), (_root_.Go.Proofs.Ytkkebpcclklmcaa.u10 U12), (_root_.Go.Proofs.Ytkkebpcclklmcaa.u10 U13), Lib.hid (fun m => F1.out (fun h => m (addD_mem h))), F2, F3, (_root_.Go.Proofs.Ytkkebpcclklmcaa.k10 F4), (_root_.Go.Proofs.Ytkkebpcclklmcaa.k10 F5), (_root_.Go.Proofs.Ytkkebpcclklmcaa.k10 F6)⟩
              · skip
                refine wpOp_step (o := _) rfl (fun KK hKK => ?_)
                rw [if_pos (wanted_nil _ rfl)]
                have E0_ := X0 u
                go_simp
                exact hKK _ _ ⟨_, P54 u _, x, yco, ycc, yuo, yuc, yvs, yeo, yec, (_root_.Go.Proofs.Ytkkebpcclklmcaa.u10 U0), (_root_.Go.Proofs.Ytkkebpcclklmcaa.u10 U1), (_root_.Go.Proofs.Ytkkebpcclklmcaa.u10 U2), (_root_.Go.Proofs.Ytkkebpcclklmcaa.u10 U3), (_root_.Go.Proofs.Ytkkebpcclklmcaa.u10 U4), (_root_.Go.Proofs.Ytkkebpcclklmcaa.u10 U5), Lib.hid (fun _ => frUpd_self), (_root_.Go.Proofs.Ytkkebpcclklmcaa.u10 U7), (_root_.Go.Proofs.Ytkkebpcclklmcaa.u10 U8), (_root_.Go.Proofs.Ytkkebpcclklmcaa.u10 U9), (_root_.Go.Proofs.Ytkkebpcclklmcaa.u10 U10), (_root_.Go.Proofs.Ytkkebpcclklmcaa.u10 U11), (_root_.Go.Proofs.Ytkkebpcclklmcaa.u10 U12), (_root_.Go.Proofs.Ytkkebpcclklmcaa.u10 U13), Lib.hid (fun m => F1.out (fun h => m (addD_mem h))), F2, F3, (_root_.Go.Proofs.Ytkkebpcclklmcaa.k10 F4), (_root_.Go.Proofs.Ytkkebpcclklmcaa.k10 F5), (_root_.Go.Proofs.Ytkkebpcclklmcaa.k10 F6)⟩
              · skip
                refine wpOp_step (o := _) rfl (fun KK hKK => ?_)
                rw [if_pos (wanted_nil _ rfl)]
                have e54 := U6.out (hw.out 6 (by kernel_rfl)); have E54_ := (E54 u).trans e54
                go_simp
                refine (s_l01Below B g _ _ F3.out).mono ?_; rintro e w2 ⟨x2, hx2, rfl, hcur2, hgr2⟩
                have hx3 := hx2.1; have hx4 := hx2.2.1 (by omega); try dsimp only
                exact hKK _ _ ⟨_, P55 u _, x2, yco, ycc, yuo, yuc, yvs, yeo, yec, (_root_.Go.Proofs.Ytkkebpcclklmcaa.u10 U0), (_root_.Go.Proofs.Ytkkebpcclklmcaa.u10 U1), (_root_.Go.Proofs.Ytkkebpcclklmcaa.u10 U2), (_root_.Go.Proofs.Ytkkebpcclklmcaa.u10 U3), (_root_.Go.Proofs.Ytkkebpcclklmcaa.u10 U4), (_root_.Go.Proofs.Ytkkebpcclklmcaa.u10 U5), (_root_.Go.Proofs.Ytkkebpcclklmcaa.u10 U6), Lib.hid (fun _ => frUpd_self), Lib.hid (fun h => absurd (hcl.out 8 7 (by kernel_rfl) (addD_of h (by decide))) hn), Lib.hid (fun h => absurd (hcl.out 8 7 (by kernel_rfl) (hcl.out 9 8 (by kernel_rfl) (addD_of h (by decide)))) hn), Lib.hid (fun h => absurd (hcl.out 8 7 (by kernel_rfl) (hcl.out 9 8 (by kernel_rfl) (hcl.out 10 9 (by kernel_rfl) (addD_of h (by decide))))) hn), Lib.hid (fun h => absurd (hcl.out 8 7 (by kernel_rfl) (hcl.out 9 8 (by kernel_rfl) (hcl.out 10 9 (by kernel_rfl) (hcl.out 11 10 (by kernel_rfl) (addD_of h (by decide)))))) hn), Lib.hid (fun h => absurd (hcl.out 8 7 (by kernel_rfl) (hcl.out 9 8 (by kernel_rfl) (hcl.out 10 9 (by kernel_rfl) (hcl.out 12 10 (by kernel_rfl) (addD_of h (by decide)))))) hn), (_root_.Go.Proofs.Ytkkebpcclklmcaa.u10 U13), Lib.hid (fun m => (F1.out (fun h => m (addD_mem h))).trans (grown_touch hgr2 (fun b hb => by cases hb; simp))), Lib.hid (F2.out.trans (grown_touch hgr2 (fun b hb => by cases hb; simp))), Lib.hid hcur2, Lib.hid (fun h => absurd (hcl.out 8 7 (by kernel_rfl) (hcl.out 9 8 (by kernel_rfl) (addD_of h (by decide)))) hn), Lib.hid (fun _ => ⟨hx3, by omega⟩), Lib.hid (fun h => absurd (hcl.out 8 7 (by kernel_rfl) (hcl.out 9 8 (by kernel_rfl) (hcl.out 10 9 (by kernel_rfl) (hcl.out 11 10 (by kernel_rfl) (hcl.out 14 11 (by kernel_rfl) (addD_of h (by decide))))))) hn)⟩
              · skip
                refine wpOp_step (o := _) rfl (fun KK hKK => ?_)
                rw [if_pos (wanted_nil _ rfl)]
                have e55 := U7.out (hw.out 7 (by kernel_rfl)); have E55_ := (E55 u).trans e55
                have hx5 := F5.out (hw.out 7 (by kernel_rfl)); have m1 : wrap64 (1 + x) = 1 + x := IntWalk.wrap64_in _ (by omega); have m2 : IntKind.i64.wrap (1 + x) = 1 + x := IntWalk.i64_in _ (by omega)
                go_simp
                exact hKK _ _ ⟨_, P56 u _, x, yco, ycc, yuo, yuc, yvs, yeo, yec, (_root_.Go.Proofs.Ytkkebpcclklmcaa.u10 U0), (_root_.Go.Proofs.Ytkkebpcclklmcaa.u10 U1), (_root_.Go.Proofs.Ytkkebpcclklmcaa.u10 U2), (_root_.Go.Proofs.Ytkkebpcclklmcaa.u10 U3), (_root_.Go.Proofs.Ytkkebpcclklmcaa.u10 U4), (_root_.Go.Proofs.Ytkkebpcclklmcaa.u10 U5), (_root_.Go.Proofs.Ytkkebpcclklmcaa.u10 U6), (_root_.Go.Proofs.Ytkkebpcclklmcaa.u10 U7), Lib.hid (fun _ => frUpd_self), (_root_.Go.Proofs.Ytkkebpcclklmcaa.u10 U9), (_root_.Go.Proofs.Ytkkebpcclklmcaa.u10 U10), (_root_.Go.Proofs.Ytkkebpcclklmcaa.u10 U11), (_root_.Go.Proofs.Ytkkebpcclklmcaa.u10 U12), (_root_.Go.Proofs.Ytkkebpcclklmcaa.u10 U13), Lib.hid (fun m => F1.out (fun h => m (addD_mem h))), F2, F3, (_root_.Go.Proofs.Ytkkebpcclklmcaa.k10 F4), (_root_.Go.Proofs.Ytkkebpcclklmcaa.k10 F5), (_root_.Go.Proofs.Ytkkebpcclklmcaa.k10 F6)⟩
              · skip
                refine wpOp_step (o := _) rfl (fun KK hKK => ?_)
                rw [if_pos (wanted_nil _ rfl)]
                have hz : ¬ D 14 := fun h => hn (hcl.out 10 9 (by kernel_rfl) (hcl.out 11 10 (by kernel_rfl) (hcl.out 14 11 (by kernel_rfl) h)))
                have KI : Hid (KIn w.heap.size wv gk y K) := Lib.hid (HS1.out.kin.touchN (F1.out hz) HN1.out HN2.out)
                have e49 := U1.out (hw.out 1 (by kernel_rfl)); have E49_ := (E49 u).trans e49
                have e53 := U5.out (hw.out 5 (by kernel_rfl)); have E53_ := (E53 u).trans e53
                have e56 := U8.out (hw.out 8 (by kernel_rfl)); have E56_ := (E56 u).trans e56
                go_simp
                have hx5 := F5.out (hcl.out 8 7 (by kernel_rfl) (hw.out 8 (by kernel_rfl)))
                refine (s_Store y.m K.m ((mv : Int) * 16 + (k : Int)) (1 + x) HSZ.out (by omega) _ KI.out.own.m.at).mono ?_; rintro e w2 ⟨ym, rfl, hyo, hb⟩
                obtain ⟨zco, zcc, zuo, zuc, zvs, zeo, zec, rfl⟩ := MOwn.shapes hyo; try dsimp only
                exact hKK _ _ ⟨_, P57 u _, x, zco, zcc, zuo, zuc, zvs, zeo, zec, (_root_.Go.Proofs.Ytkkebpcclklmcaa.u10 U0), (_root_.Go.Proofs.Ytkkebpcclklmcaa.u10 U1), (_root_.Go.Proofs.Ytkkebpcclklmcaa.u10 U2), (_root_.Go.Proofs.Ytkkebpcclklmcaa.u10 U3), (_root_.Go.Proofs.Ytkkebpcclklmcaa.u10 U4), (_root_.Go.Proofs.Ytkkebpcclklmcaa.u10 U5), (_root_.Go.Proofs.Ytkkebpcclklmcaa.u10 U6), (_root_.Go.Proofs.Ytkkebpcclklmcaa.u10 U7), (_root_.Go.Proofs.Ytkkebpcclklmcaa.u10 U8), Lib.hid (fun _ => frUpd_self), Lib.hid (fun h => absurd (hcl.out 10 9 (by kernel_rfl) (addD_of h (by decide))) hn), Lib.hid (fun h => absurd (hcl.out 10 9 (by kernel_rfl) (hcl.out 11 10 (by kernel_rfl) (addD_of h (by decide)))) hn), (_root_.Go.Proofs.Ytkkebpcclklmcaa.u10 U12), (_root_.Go.Proofs.Ytkkebpcclklmcaa.u10 U13), Lib.hid (fun m => (F1.out (fun h => m (addD_mem h))).trans (touch_of_below hb _)), Lib.hid (F2.out.trans (touch_of_below hb _)), Lib.hid (F3.out.below hb), Lib.hid (fun _ => hyo.mono F2.out.size), (_root_.Go.Proofs.Ytkkebpcclklmcaa.k10 F5), Lib.hid (fun h => absurd (hcl.out 10 9 (by kernel_rfl) (hcl.out 11 10 (by kernel_rfl) (hcl.out 14 11 (by kernel_rfl) (addD_of h (by decide))))) hn)⟩
              · skip
                refine wpOp_step (o := _) rfl (fun KK hKK => ?_)
                rw [if_pos (wanted_nil _ rfl)]
                have e57 := U9.out (hw.out 9 (by kernel_rfl)); have E57_ := (E57 u).trans e57
                go_simp
                exact hKK _ _ ⟨_, P47 u _, x, yco, ycc, yuo, yuc, yvs, yeo, yec, (_root_.Go.Proofs.Ytkkebpcclklmcaa.u10 U0), (_root_.Go.Proofs.Ytkkebpcclklmcaa.u10 U1), (_root_.Go.Proofs.Ytkkebpcclklmcaa.u10 U2), (_root_.Go.Proofs.Ytkkebpcclklmcaa.u10 U3), (_root_.Go.Proofs.Ytkkebpcclklmcaa.u10 U4), (_root_.Go.Proofs.Ytkkebpcclklmcaa.u10 U5), (_root_.Go.Proofs.Ytkkebpcclklmcaa.u10 U6), (_root_.Go.Proofs.Ytkkebpcclklmcaa.u10 U7), (_root_.Go.Proofs.Ytkkebpcclklmcaa.u10 U8), (_root_.Go.Proofs.Ytkkebpcclklmcaa.u10 U9), Lib.hid (fun _ => frUpd_self), (_root_.Go.Proofs.Ytkkebpcclklmcaa.u10 U11), (_root_.Go.Proofs.Ytkkebpcclklmcaa.u10 U12), (_root_.Go.Proofs.Ytkkebpcclklmcaa.u10 U13), Lib.hid (fun m => F1.out (fun h => m (addD_mem h))), F2, F3, (_root_.Go.Proofs.Ytkkebpcclklmcaa.k10 F4), (_root_.Go.Proofs.Ytkkebpcclklmcaa.k10 F5), (_root_.Go.Proofs.Ytkkebpcclklmcaa.k10 F6)⟩
              · skip
                refine wpOp_step (o := _) rfl (fun KK hKK => ?_)
                rw [if_pos (wanted_nil _ rfl)]
                have e47 := U10.out (hw.out 10 (by kernel_rfl)); have E47_ := (E47 u).trans e47
                go_simp
                exact hKK _ _ ⟨_, P58 u _, x, yco, ycc, yuo, yuc, yvs, yeo, yec, (_root_.Go.Proofs.Ytkkebpcclklmcaa.u10 U0), (_root_.Go.Proofs.Ytkkebpcclklmcaa.u10 U1), (_root_.Go.Proofs.Ytkkebpcclklmcaa.u10 U2), (_root_.Go.Proofs.Ytkkebpcclklmcaa.u10 U3), (_root_.Go.Proofs.Ytkkebpcclklmcaa.u10 U4), (_root_.Go.Proofs.Ytkkebpcclklmcaa.u10 U5), (_root_.Go.Proofs.Ytkkebpcclklmcaa.u10 U6), (_root_.Go.Proofs.Ytkkebpcclklmcaa.u10 U7), (_root_.Go.Proofs.Ytkkebpcclklmcaa.u10 U8), (_root_.Go.Proofs.Ytkkebpcclklmcaa.u10 U9), (_root_.Go.Proofs.Ytkkebpcclklmcaa.u10 U10), Lib.hid (fun _ => frUpd_self), (_root_.Go.Proofs.Ytkkebpcclklmcaa.u10 U12), (_root_.Go.Proofs.Ytkkebpcclklmcaa.u10 U13), Lib.hid (fun m => F1.out (fun h => m (addD_mem h))), F2, F3, (_root_.Go.Proofs.Ytkkebpcclklmcaa.k10 F4), (_root_.Go.Proofs.Ytkkebpcclklmcaa.k10 F5), (_root_.Go.Proofs.Ytkkebpcclklmcaa.k10 F6)⟩
              · skip
                refine wpOp_step (o := _) rfl (fun KK hKK => ?_)
                rw [if_pos (wanted_nil _ rfl)]
                have e47 := U10.out (hw.out 10 (by kernel_rfl)); have E47_ := (E47 u).trans e47
                go_simp
                exact hKK _ _ ⟨_, P59 u _, x, yco, ycc, yuo, yuc, yvs, yeo, yec, (_root_.Go.Proofs.Ytkkebpcclklmcaa.u10 U0), (_root_.Go.Proofs.Ytkkebpcclklmcaa.u10 U1), (_root_.Go.Proofs.Ytkkebpcclklmcaa.u10 U2), (_root_.Go.Proofs.Ytkkebpcclklmcaa.u10 U3), (_root_.Go.Proofs.Ytkkebpcclklmcaa.u10 U4), (_root_.Go.Proofs.Ytkkebpcclklmcaa.u10 U5), (_root_.Go.Proofs.Ytkkebpcclklmcaa.u10 U6), (_root_.Go.Proofs.Ytkkebpcclklmcaa.u10 U7), (_root_.Go.Proofs.Ytkkebpcclklmcaa.u10 U8), (_root_.Go.Proofs.Ytkkebpcclklmcaa.u10 U9), (_root_.Go.Proofs.Ytkkebpcclklmcaa.u10 U10), (_root_.Go.Proofs.Ytkkebpcclklmcaa.u10 U11), Lib.hid (fun _ => frUpd_self), (_root_.Go.Proofs.Ytkkebpcclklmcaa.u10 U13), Lib.hid (fun m => F1.out (fun h => m (addD_mem h))), F2, F3, (_root_.Go.Proofs.Ytkkebpcclklmcaa.k10 F4), (_root_.Go.Proofs.Ytkkebpcclklmcaa.k10 F5), (_root_.Go.Proofs.Ytkkebpcclklmcaa.k10 F6)⟩
              · skip
                refine wpOp_step (o := _) rfl (fun KK hKK => ?_)
                rw [if_pos (wanted_nil _ rfl)]
                have E4_ := X4 u
                go_simp
                exact hKK _ _ ⟨_, P60 u _, x, yco, ycc, yuo, yuc, yvs, yeo, yec, (_root_.Go.Proofs.Ytkkebpcclklmcaa.u10 U0), (_root_.Go.Proofs.Ytkkebpcclklmcaa.u10 U1), (_root_.Go.Proofs.Ytkkebpcclklmcaa.u10 U2), (_root_.Go.Proofs.Ytkkebpcclklmcaa.u10 U3), (_root_.Go.Proofs.Ytkkebpcclklmcaa.u10 U4), (_root_.Go.Proofs.Ytkkebpcclklmcaa.u10 U5), (_root_.Go.Proofs.Ytkkebpcclklmcaa.u10 U6), (_root_.Go.Proofs.Ytkkebpcclklmcaa.u10 U7), (_root_.Go.Proofs.Ytkkebpcclklmcaa.u10 U8), (_root_.Go.Proofs.Ytkkebpcclklmcaa.u10 U9), (_root_.Go.Proofs.Ytkkebpcclklmcaa.u10 U10), (_root_.Go.Proofs.Ytkkebpcclklmcaa.u10 U11), (_root_.Go.Proofs.Ytkkebpcclklmcaa.u10 U12), Lib.hid (fun _ => frUpd_self), Lib.hid (fun m => F1.out (fun h => m (addD_mem h))), F2, F3, (_root_.Go.Proofs.Ytkkebpcclklmcaa.k10 F4), (_root_.Go.Proofs.Ytkkebpcclklmcaa.k10 F5), (_root_.Go.Proofs.Ytkkebpcclklmcaa.k10 F6)⟩
              · skip
                refine wpOp_step (o := _) rfl (fun KK hKK => ?_)
                rw [if_pos (wanted_nil _ rfl)]
                have hz : ¬ D 14 := fun h => hn h
                have KI : Hid (KIn w.heap.size wv gk y K) := Lib.hid (HS1.out.kin.touchN (F1.out hz) HN1.out HN2.out)
                have hbx := KI.out.box; have c0 := hbx.c0; have c1 := hbx.c1; have c2 := hbx.c2; have f0 := hbx.f0; have f1 := hbx.f1; have f2 := hbx.f2; have xg := hbx.lt; clear hbx
                have e60 := U13.out (hw.out 13 (by kernel_rfl)); have E60_ := (E60 u).trans e60
                have e58 := U11.out (hw.out 11 (by kernel_rfl)); have E58_ := (E58 u).trans e58
                go_simp
                have HM := Lib.hid (F4.out (hcl.out 10 9 (by kernel_rfl) (hcl.out 11 10 (by kernel_rfl) (hw.out 11 (by kernel_rfl)))))
                have hne : gk ∉ blocks (MV.all ⟨⟨.slice yco yvs.length ycc, .slice yuo (storeM K.m ((mv : Int) * 16 + (k : Int)) (1 + x)).f.used.length yuc, yvs⟩, .slice yeo (storeM K.m ((mv : Int) * 16 + (k : Int)) (1 + x)).ents.length yec⟩) := fun hm => by have := (HM.out.lts gk hm).1; have := HS1.out.kin.box.lt; omega
                exact hKK _ _ ⟨u, rfl, x, yco, ycc, yuo, yuc, yvs, yeo, yec, (_root_.Go.Proofs.Ytkkebpcclklmcaa.k10 U0), (_root_.Go.Proofs.Ytkkebpcclklmcaa.k10 U1), (_root_.Go.Proofs.Ytkkebpcclklmcaa.k10 U2), (_root_.Go.Proofs.Ytkkebpcclklmcaa.k10 U3), (_root_.Go.Proofs.Ytkkebpcclklmcaa.k10 U4), (_root_.Go.Proofs.Ytkkebpcclklmcaa.k10 U5), (_root_.Go.Proofs.Ytkkebpcclklmcaa.k10 U6), (_root_.Go.Proofs.Ytkkebpcclklmcaa.k10 U7), (_root_.Go.Proofs.Ytkkebpcclklmcaa.k10 U8), (_root_.Go.Proofs.Ytkkebpcclklmcaa.k10 U9), (_root_.Go.Proofs.Ytkkebpcclklmcaa.k10 U10), (_root_.Go.Proofs.Ytkkebpcclklmcaa.k10 U11), (_root_.Go.Proofs.Ytkkebpcclklmcaa.k10 U12), (_root_.Go.Proofs.Ytkkebpcclklmcaa.k10 U13), Lib.hid (fun m => absurd (addD_self 14) m), Lib.hid (touch_setC (touch_setC (touch_setC F2.out (by simp)) (by simp)) (by simp)), Lib.hid (Cur.setN (Cur.setN (Cur.setN F3.out (by have := KI.out.hB; have := HS1.out.cur.1; have := HS1.out.hg; omega) HS1.out.gne.1 _ _) (by have := KI.out.hB; have := HS1.out.cur.1; have := HS1.out.hg; omega) HS1.out.gne.1 _ _) (by have := KI.out.hB; have := HS1.out.cur.1; have := HS1.out.hg; omega) HS1.out.gne.1 _ _), Lib.hid (fun _ => HM.out.touch (S := [gk]) (touch_bx (touch_bx (touch_bx (Touch.refl _ _)))) (fun b hb hm => hne (by rw [← List.mem_singleton.1 hm]; exact hb))), (_root_.Go.Proofs.Ytkkebpcclklmcaa.k10 F5), Lib.hid (fun _ => KIn.setM KI.out HM.out HS1.out.kin.box.lt (fun b hb => (HS1.out.kin.own.lts b (sub_left [y.r] _ b hb)).2) (by have := HS1.out.size; omega))⟩
            · rintro D u wv ⟨x, yco, ycc, yuo, yuc, yvs, yeo, yec, U0, U1, U2, U3, U4, U5, U6, U7, U8, U9, U10, U11, U12, U13, F1, F2, F3, F4, F5, F6⟩ hall9
              have hxr := F5.out (hall9 7 (by show 7 < 15; decide))
              have HKN := Lib.hid (F6.out (hall9 14 (by show 14 < 15; decide)))
              have HMN := Lib.hid (F4.out (hall9 9 (by show 9 < 15; decide)))
              have ha1 := ha0.out; subst ha1
              clear hall9 ha0 hsz HN1 HN2 U0 U1 U2 U3 U4 U5 U6 U7 U8 U9 U10 U11 U12 U13 E48 P48 E49 P49 E50 P50 E51 P51 E52 P52 E53 P53 E54 P54 E55 P55 E56 P56 E57 P57 E47 P47 E58 P58 E59 P59 E60 P60 X0 X4 X7 X8 F1 F4 F5 F6
              obtain ⟨wn, rfl⟩ : ∃ q, q = wv := ⟨_, rfl⟩
              simp only [frAll, frTo, List.setIfInBounds_toArray, List.set_cons_succ, List.set_cons_zero]
              have hT : Touch (g :: gk :: blocks y.all) w1 wn := F2.out.mono (by intro b hb; simp only [List.mem_cons, List.not_mem_nil, or_false] at hb; rcases hb with rfl | rfl <;> simp)
              obtain ⟨SN, KN⟩ := HS1.out.next HKN.out hT (fun b hb => by
                rw [show (KV.all ⟨⟨⟨.slice yco yvs.length ycc, .slice yuo (storeM K.m ((mv : Int) * 16 + (k : Int)) (1 + x)).f.used.length yuc, yvs⟩, .slice yeo (storeM K.m ((mv : Int) * 16 + (k : Int)) (1 + x)).ents.length yec⟩, y.r⟩) = [y.r] ++ MV.all ⟨⟨.slice yco yvs.length ycc, .slice yuo (storeM K.m ((mv : Int) * 16 + (k : Int)) (1 + x)).f.used.length yuc, yvs⟩, .slice yeo (storeM K.m ((mv : Int) * 16 + (k : Int)) (1 + x)).ents.length yec⟩ from rfl, blocks_append, List.mem_append] at hb
                rcases hb with hb | hb
                · exact .inl (sub_left [y.r] _ b hb)
                · exact .inr (HMN.out.lts b hb).1) F3.out
              have IN := store_dinv HD.out (i := k) hlt (1 + x)
              rw [live_in cs k hh1] at IN
              have hzn := hT.size
              go_wp2_with fail
              go_roundw
              case rel => exact ⟨k + 1, _, _, by omega, by go_num, IN, hcl, SN, (HK1.out.trans KN), by omega⟩
              case measure => simp [intOf]; omega
    · obtain rfl : k = 16 := by omega
      have HV := Lib.hid (Own.keep HV8.out HK.out (fun b hb => List.mem_cons_of_mem _ (List.mem_cons_of_mem _ (List.mem_cons_of_mem _ hb))))
      have r1 := HB8.out.keep HK.out (List.mem_cons_self ..) hsz
      have r2 := HB8'.out.keep HK.out (List.mem_cons_of_mem _ (List.mem_cons_self ..)) hsz
      have hex := HS.out.ex
      have HE1 := Lib.hid (hex _ (List.mem_cons_self ..)); have HE2 := Lib.hid (hex _ (List.mem_cons_of_mem _ (List.mem_cons_self ..)))
      have HEV : Hid (∀ b ∈ blocks [(.slice vo cs.length vc : Value)], b ≠ w.heap.size ∧ b ≠ w.heap.size + 1 ∧ b ∉ blocks y.all) := HEVH.out y K w1 HS.out
      obtain ⟨zco, zcc, zuo, zuc, zvs, zeo, zec, zro, zrc, rfl⟩ := KOwn.shapes HS.out.kin.own
      have hbx := HS.out.kin.box
      have c0 := hbx.c0; have c1 := hbx.c1; have c2 := hbx.c2; have c3 := hbx.c3; have c4 := hbx.c4; have xg := hbx.lt
      dsimp only at c0 c1 c2 c3 c4
      have a0 := (r1.cells 0 _ rfl).1; have d0 := (r1.cells 0 _ rfl).2; have a1 := (r1.cells 1 _ rfl).1; have d1 := (r1.cells 1 _ rfl).2; have a2 := (r1.cells 2 _ rfl).1; have d2 := (r1.cells 2 _ rfl).2; have a3 := (r1.cells 3 _ rfl).1; have d3 := (r1.cells 3 _ rfl).2; have a4 := (r1.cells 4 _ rfl).1; have d4 := (r1.cells 4 _ rfl).2
      have u0_ := (r2.cells 0 _ rfl).1; have v0_ := (r2.cells 0 _ rfl).2; have u1_ := (r2.cells 1 _ rfl).1; have v1_ := (r2.cells 1 _ rfl).2; have u2_ := (r2.cells 2 _ rfl).1; have v2_ := (r2.cells 2 _ rfl).2
      have xr1 := r1.lt; have xr2 := r2.lt
      have n1 : ¬ w.heap.size = gk := fun e => HE1.out.2.2.1 e
      have n2 : ¬ w.heap.size + 1 = gk := fun e => HE2.out.2.2.1 e
      have n3 : ¬ gk = w.heap.size := fun e => HE1.out.2.2.1 e.symm
      have n4 : ¬ gk = w.heap.size + 1 := fun e => HE2.out.2.2.1 e.symm
      have n5 : ¬ gp = w.heap.size := HNP.out.1
      have n6 : ¬ gp = w.heap.size + 1 := HNP.out.2
      have n7 : ¬ w.heap.size = gp := fun e => HNP.out.1 e.symm
      have n8 : ¬ w.heap.size + 1 = gp := fun e => HNP.out.2 e.symm
      clear hbx r1 r2 hex
      go_wp2_with fail
      go_region_held3 (fun w' => w'.cell? ⟨gk, 0, none⟩ = some (.slice zco zvs.length zcc) ∧ w'.cell? ⟨gk, 1, none⟩ = some (.slice zuo K.m.f.used.length zuc) ∧ w'.cell? ⟨gk, 2, none⟩ = some (.slice zeo K.m.ents.length zec) ∧ w'.cell? ⟨gk, 3, none⟩ = some (.int .i64 K.calls) ∧ w'.cell? ⟨gk, 4, none⟩ = some (.slice zro K.refuse.length zrc) ∧ w'.cell? ⟨gp, 0, none⟩ = some (.int .i64 (kp : Int)) ∧ w'.cell? ⟨gp, 1, none⟩ = some (.int .i64 (mv : Int)) ∧ w'.cell? ⟨gp, 2, none⟩ = some (.slice vo cs.length vc)) ((refine ⟨?_, ?_, ?_, ?_, ?_, ?_, ?_, ?_⟩ <;> (go_simp; done))) (fail)
      all_goals go_wp2_with fail
      skip
      have HC := HS.out.cur; have HG := HS.out.grew; have HKO := HS.out.kin.own
      all_goals (refine bodyPost_ret (v := .tuple #[.agg #[.slice zco zvs.length zcc, .slice zuo K.m.f.used.length zuc, .slice zeo K.m.ents.length zec, .int .i64 K.calls, .slice zro K.refuse.length zrc], .agg #[.int .i64 (kp : Int), .int .i64 (mv : Int), .slice vo cs.length vc]]) (by simp [results, Try.results32, go_sem, a0, a1, a2, a3, a4, d0, d1, d2, d3, d4, u0_, u1_, u2_, v0_, v1_, v2_, xr1, xr2]) rfl ?_)
      all_goals (refine ⟨⟨⟨⟨.slice zco zvs.length zcc, .slice zuo K.m.f.used.length zuc, zvs⟩, .slice zeo K.m.ents.length zec⟩, .slice zro K.refuse.length zrc⟩, K, kp, mv, _, cs, rfl, HD.out, hcl, hk4, hm4, HKO.touch (S := [w.heap.size, w.heap.size + 1]) (by repeat (first | (with_reducible exact Touch.refl _ _) | (with_reducible refine touch_setC ?_ (by simp)) | (with_reducible refine touch_drw ?_))) (fun b hb hm => by simp only [List.mem_cons, List.not_mem_nil, or_false] at hm; rcases hm with rfl | rfl; exact HE1.out.2.2.2 hb; exact HE2.out.2.2.2 hb), Own.touch (S := [w.heap.size, w.heap.size + 1]) HV.out (by repeat (first | (with_reducible exact Touch.refl _ _) | (with_reducible refine touch_setC ?_ (by simp)) | (with_reducible refine touch_drw ?_))) (fun b hb hm => by simp only [List.mem_cons, List.not_mem_nil, or_false] at hm; rcases hm with rfl | rfl; exact (HEV.out _ (mem_one hb)).1 rfl; exact (HEV.out _ (mem_one hb)).2.1 rfl), fun b hb => (HEV.out b hb).2.2, curTouch (S := [w.heap.size, w.heap.size + 1]) HC hg (by repeat (first | (with_reducible exact Touch.refl _ _) | (with_reducible refine touch_setC ?_ (by simp)) | (with_reducible refine touch_drw ?_))) (by intro s hs; simp only [List.mem_cons, List.not_mem_nil, or_false] at hs; omega), grown_touchN (S := [w.heap.size, w.heap.size + 1]) HG (by repeat (first | (with_reducible exact Touch.refl _ _) | (with_reducible refine touch_setC ?_ (by simp)) | (with_reducible refine touch_drw ?_))) (by intro s hs; simp only [List.mem_cons, List.not_mem_nil, or_false] at hs; omega)⟩)

end Go.Proofs.Ytkkebpcclklmcaa
