/-
  A slot is given back: plain facts, and the cells of a frame that are set to 0.
-/
import Derived.Test.YtmblkllijjlkoaaGreatKBox2
import Derived.Test.YtmblkllijjlkoaaGreatKUnmap
import Derived.Test.YtmblkllijjlkoaaGreatKStore
import Derived.Test.YtmblkllijjlkoaaGreatSpan
import Derived.Test.YtmblkllijjlkoaaGreatSpan2
import Derived.Test.YtmblkllijjlkoaaGreatKCells
set_option linter.unusedVariables false
set_option linter.unusedSimpArgs false
namespace Go.Proofs.YtmblkllijjlkoaaGreat
open Go.RowKit
theorem can0 {K : Ker} (h : kernelOk K = true) : canCall ⟨K.m, 0, K.refuse⟩ = true := by
  unfold canCall kernelOk at *
  simp only [Bool.and_eq_true] at *
  exact ⟨rfl, ⟨⟨h.1.1.1, rfl⟩, h.1.2⟩, h.2⟩
def zeroTo (r : List Int) (a : Nat) : Nat → List Int
  | 0 => r
  | k + 1 => (zeroTo r a k).set (a + k) 0
theorem zeroTo_len (r : List Int) (a : Nat) : ∀ k, (zeroTo r a k).length = r.length
  | 0 => rfl
  | k + 1 => by rw [zeroTo, List.length_set, zeroTo_len r a k]
def clearF (F : Frm) (fr a n : Nat) : Frm := ⟨F.cells.set fr (zeroTo (F.cells.getD fr []) a n), F.used⟩
theorem clearF_zero (F : Frm) (fr a : Nat) : clearF F fr a 0 = F := by
  obtain ⟨cs, us⟩ := F
  unfold clearF zeroTo
  simp only [Frm.mk.injEq, and_true]
  by_cases h : fr < cs.length
  · rw [List.getD_eq_getElem?_getD, List.getElem?_eq_getElem h, Option.getD_some, List.set_getElem_self]
  · rw [List.set_eq_of_length_le (by omega)]
theorem clearF_at {F : Frm} {fr a n : Nat} (h : fr < F.cells.length) : (clearF F fr a n).cells[fr]? = some (zeroTo (F.cells.getD fr []) a n) := by
  unfold clearF; rw [List.getElem?_set_self h]
theorem clearF_step (F : Frm) (fr a n : Nat) : (⟨(clearF F fr a n).cells.set fr ((zeroTo (F.cells.getD fr []) a n).set (a + n) 0), (clearF F fr a n).used⟩ : Frm) = clearF F fr a (n + 1) := by
  unfold clearF; simp only [List.set_set]; rfl
def freeCode (K : Ker) (p c b slot : Int) : Int := if (spanOk p c b && hasSlot b slot) = false then 1 else if (!kernelOk K || !mappedB K.m.ents p) = true then 3 else if ((pageEntry K.m.ents p).m == 1) = true then 2 else 0
def freeK (K : Ker) (p c b slot : Int) : Ker := if freeCode K p c b slot = 0 then withF K (clearF K.m.f (pageEntry K.m.ents p).f.toNat (slot * classSize c).toNat (classSize c).toNat) else K
def freeB (K : Ker) (p c b slot : Int) : Int := if freeCode K p c b slot = 0 then giveBits p c b slot else b
theorem bits_zero : (bits .and .i64 0 1 == 1) = false := by decide
theorem give_place {p c b slot : Int} (h : (spanOk p c b && hasSlot b slot) = true) : ∃ (kp s z : Nat), p = kp ∧ kp ≤ 31 ∧ slot = s ∧ classSize c = z ∧ 1 ≤ z ∧ s * z + z ≤ 16 ∧ spanAddr p c b slot = (kp : Int) * 16 + ((s * z : Nat) : Int) := by
  rw [Bool.and_eq_true] at h
  obtain ⟨hp, hc, hb⟩ := spanOk_parts h.1
  have hh := h.2
  unfold hasSlot slotOk at hh
  simp only [Bool.and_eq_true, between_iff, decide_eq_true_eq] at hh
  obtain ⟨⟨hb0, hs0, hs15⟩, hbit⟩ := hh
  unfold bitmapOk at hb
  simp only [Bool.and_eq_true, between_iff] at hb
  obtain ⟨s, rfl⟩ := Int.eq_ofNat_of_zero_le hs0
  obtain ⟨kp, rfl⟩ := Int.eq_ofNat_of_zero_le hp.1
  have key : (s : Int) < slotsOf c := by
    rcases Int.lt_or_le (s : Int) (slotsOf c) with h1 | h1
    · exact h1
    · exfalso
      have h2 : (2 : Int) ^ (slotsOf c).toNat ≤ 2 ^ s := by
        have := Nat.pow_le_pow_right (show 0 < 2 by decide) (show (slotsOf c).toNat ≤ s by omega)
        exact_mod_cast this
      have h3 : b / 2 ^ s = 0 := Int.ediv_eq_zero_of_lt hb0 (by omega)
      rw [Int.toNat_natCast, h3, bits_zero] at hbit
      cases hbit
  have hbt : between (s : Int) 0 (slotsOf c - 1) = true := between_iff.2 ⟨by omega, by omega⟩
  have hcc := class_mul (between_iff.2 hc)
  have hz := classSize_bound c
  obtain ⟨z, hz'⟩ := Int.eq_ofNat_of_zero_le hz.1
  have hn := slotsOf_bound c
  obtain ⟨n, hn'⟩ := Int.eq_ofNat_of_zero_le hn.1
  rw [hz', hn'] at hcc
  have hnz : n * z = 16 := by exact_mod_cast hcc
  rw [hn'] at key
  have hsn : s + 1 ≤ n := by omega
  have hle := Nat.mul_le_mul_right z hsn
  rw [hnz, Nat.add_mul, Nat.one_mul] at hle
  refine ⟨kp, s, z, rfl, by omega, rfl, hz', ?_, hle, ?_⟩
  · rcases Nat.eq_zero_or_pos z with rfl | h0
    · simp at hnz
    · exact h0
  · unfold spanAddr
    rw [h.1, hbt, hz']
    simp
set_option maxRecDepth 20000 in
set_option maxHeartbeats 1600000 in
theorem i_clearCells (B g : Nat) (y : KV) (K : Ker) (kp fa a n : Nat) (em ad : Int) (hcan : canCall ⟨K.m, 0, K.refuse⟩ = true) (hpe : pageEntry K.m.ents kp = ⟨em, fa⟩) (hfa : fa < K.m.f.cells.length) (had : ad = (kp : Int) * 16 + (a : Nat)) (ha : a + n ≤ 16) (ha2 : a < 16) (hk31 : kp ≤ 31) (w : World) (h : KIn B w g y K) : Calls Tryz.prog 100 #[.pointer (some ⟨g, 0, none⟩), .int .i64 ad, .int .i64 (n : Nat)] w fun e w' => e = .returned (.tuple #[]) ∧ KIn B w' g y (withF K (clearF K.m.f fa a n)) ∧ Touch (blocks y.m.f.all) w w' ∧ Below B w w' := by
  have HI := Lib.hid h
  have hBz : B ≤ w.heap.size := by have := h.hB; have := h.box.lt; omega
  have HPA := Lib.hid hpe; have HFA := Lib.hid hfa
  have R16 : Hid ((K.m.f.cells.getD fa []).length = 16) := Lib.hid (row16 hcan hfa)
  have d1 : ad.tdiv 16 = kp := by subst had; rw [Int.tdiv_eq_ediv_of_nonneg (by omega)]; omega
  have d2 : ad.tmod 16 = (a : Nat) := by subst had; rw [Int.tmod_eq_emod_of_nonneg (by omega)]; omega
  have d3 : ad / 16 = kp := by omega
  have d4 : ad % 16 = (a : Nat) := by omega
  have hkp : (kp : Int) ≤ 31 := by omega
  have ha3 : (a : Int) < 16 := by omega
  have hn3 : (n : Int) ≤ 16 := by omega
  obtain ⟨yco, ycc, yuo, yuc, yvs, yeo, yec, yro, yrc, rfl⟩ := h.own.shapes
  have hvl : yvs.length = K.m.f.cells.length := h.own.m.f.rows.len
  obtain ⟨xg, c0, c1, c2, c3, c4, f0, f1, f2, f3, f4⟩ := h.box
  dsimp only at c2
  have hfal : (fa : Int) < yvs.length := by omega
  clear h hcan hpe hvl c0 c1 c3 c4 f0 f1 f2 f3 f4
  obtain ⟨gc, gcc, hgc, -, -⟩ := Own.addr HI.out.own.m.f.rows.out (show 0 < yvs.length by omega)
  simp only [Value.slice.injEq] at hgc
  obtain ⟨rfl, -, rfl⟩ := hgc
  obtain ⟨ga, va, hva, -, -⟩ := HI.out.row (i := fa) (r := K.m.f.cells.getD fa []) (by obtain ⟨r, hr⟩ := getx HFA.out; rw [getD_of hr]; exact hr) (by rw [R16.out]; omega)
  rw [R16.out] at hva
  dsimp only at hva
  have HVA := Lib.hid hva; clear hva
  clear hfa had
  (have hall := all_nil w; go_enter Tryz.func100, Tryz.ntmps100)
  go_wp2_with (first | (go_at_call 72; (((with_reducible refine (i_PageEntry _ K.m.ents kp _ (HI.out.own.m.ents.at lenEnt)).mono ?_)); rintro e w2 ⟨rfl, hb⟩; rw [HPA.out]; (have K2x := HI.out.below hb); (have KI := Lib.hid K2x); (have HT := Lib.hid (touch_of_below hb (blocks (FV.mk (.slice (some ⟨gc, 0, none⟩) yvs.length ycc) (.slice yuo K.m.f.used.length yuc) yvs).all))); clear hb K2x; obtain ⟨wa, rfl⟩ : ∃ x, x = w2 := ⟨_, rfl⟩)) | (with_reducible refine wp_region_grew2 (by kernel_rfl) (by kernel_rfl) ?_; intro w2 hb; (first | have hn := nw4 hb hall (by exact zo) | have hn := nw3 hb hall (by exact zo) | have hn := nw2 hb hall (by exact zo) | have hn := nw1 hb hall (by exact zo) | have hn := nw0 hb hall (by exact zo)); obtain ⟨hc, hf, hn, hc0⟩ := hn; replace hall := hn; clear hn; have hz := hb.size; (try simp only [World.size_alloc, World.size_setCell, World.size_drew] at hz); have hx := hall; (try simp only [allLt, and_true] at hx); obtain ⟨w1, rfl⟩ : ∃ x, x = w2 := ⟨_, rfl⟩; (repeat (go_big_quiet_step (fail))); refine wpQuiet_nil ?_; intro w2 hw'; have hb := grew_below hw'; clear hw'; (first | have hn := nw4 hb hall (by exact zo) | have hn := nw3 hb hall (by exact zo) | have hn := nw2 hb hall (by exact zo) | have hn := nw1 hb hall (by exact zo) | have hn := nw0 hb hall (by exact zo)); obtain ⟨hc, hf, hn, hc0⟩ := hn; replace hall := hn; clear hn; have hz := hb.size; (try simp only [World.size_alloc, World.size_setCell, World.size_drew] at hz); have hx := hall; (try simp only [allLt, and_true] at hx); obtain ⟨w1, rfl⟩ : ∃ x, x = w2 := ⟨_, rfl⟩))
  clear xg c2
  go_loopw [7] (fun i wr => ∃ j : Nat, j ≤ n ∧ i = .int .i64 j ∧ KIn B wr g ⟨⟨⟨.slice (some ⟨gc, 0, none⟩) yvs.length ycc, .slice yuo K.m.f.used.length yuc, yvs⟩, .slice yeo K.m.ents.length yec⟩, .slice yro K.refuse.length yrc⟩ (withF K (clearF K.m.f fa a j)) ∧ Touch (blocks (FV.mk (.slice (some ⟨gc, 0, none⟩) yvs.length ycc) (.slice yuo K.m.f.used.length yuc) yvs).all) w wr) (fun i _ => n - (intOf i).toNat)
  case atStart => exact ⟨0, Nat.zero_le _, rfl, by rw [clearF_zero]; exact KI.out, HT.out⟩
  case round =>
    obtain ⟨j, hj, rfl, hk, ht⟩ := hrel
    have HK := Lib.hid hk; have HTJ := Lib.hid ht
    obtain ⟨w1, rfl⟩ : ∃ x, x = wr := ⟨_, rfl⟩
    clear hk ht
    have hB := HTJ.out.size
    by_cases hlt : j < n
    · have hlt' : (j : Int) < (n : Nat) := by omega
      obtain ⟨cn, hcn0⟩ : ∃ cn : Nat, cn = a + j := ⟨_, rfl⟩
      have hcn : (cn : Int) < 16 := by omega
      have hcn2 : ((a : Nat) : Int) + j = (cn : Nat) := by omega
      have hcnN : cn < 16 := by omega
      have HCN := Lib.hid hcn0; clear hcn0
      obtain ⟨xg, c0, c1, c2, c3, c4, f0, f1, f2, f3, f4⟩ := HK.out.box
      dsimp only at c0
      have hrb := clearF_at (a := a) (n := j) HFA.out
      obtain ⟨-, xgc, -, eb'⟩ := Own.slot HK.out.own.m.f.rows.out lenVal HVA.out
      have ecB := eb' 0 _ rfl
      simp only [Nat.mul_one, Nat.add_zero] at ecB
      obtain ⟨ry, hry⟩ := getx (xs := zeroTo (K.m.f.cells.getD fa []) a j) (k := cn) (by rw [zeroTo_len, R16.out]; omega)
      obtain ⟨-, xgb, eB, zB⟩ := OwnI.slotI (HK.out.own.m.f.rows.row fa _ _ HVA.out hrb) hry
      have HRB := Lib.hid hrb
      clear hrb eb' hry c1 c2 c3 c4 f0 f1 f2 f3 f4
      
      go_wp2_with (first | (with_reducible refine wp_region_grew2 (by kernel_rfl) (by kernel_rfl) ?_; intro w2 hb; (first | have hn := nw4 hb hall (by exact zo) | have hn := nw3 hb hall (by exact zo) | have hn := nw2 hb hall (by exact zo) | have hn := nw1 hb hall (by exact zo) | have hn := nw0 hb hall (by exact zo)); obtain ⟨hc, hf, hn, hc0⟩ := hn; replace hall := hn; clear hn; have hz := hb.size; (try simp only [World.size_alloc, World.size_setCell, World.size_drew] at hz); have hx := hall; (try simp only [allLt, and_true] at hx); obtain ⟨w1, rfl⟩ : ∃ x, x = w2 := ⟨_, rfl⟩; (repeat (go_big_quiet_step (fail))); refine wpQuiet_nil ?_; intro w2 hw'; have hb := grew_below hw'; clear hw'; (first | have hn := nw4 hb hall (by exact zo) | have hn := nw3 hb hall (by exact zo) | have hn := nw2 hb hall (by exact zo) | have hn := nw1 hb hall (by exact zo) | have hn := nw0 hb hall (by exact zo)); obtain ⟨hc, hf, hn, hc0⟩ := hn; replace hall := hn; clear hn; have hz := hb.size; (try simp only [World.size_alloc, World.size_setCell, World.size_drew] at hz); have hx := hall; (try simp only [allLt, and_true] at hx); obtain ⟨w1, rfl⟩ : ∃ x, x = w2 := ⟨_, rfl⟩))
      go_roundw
      case rel =>
        have S := KIn.setCell HK.out HVA.out HRB.out rfl cn 0
        have e := clearF_step K.m.f fa a j
        rw [← HCN.out] at e
        refine ⟨j + 1, by omega, by go_num, ?_, HTJ.out.trans S.2⟩
        rw [← e]
        exact S.1
      case measure => simp [intOf]; omega
    · have hlt' : ¬ (j : Int) < (n : Nat) := by omega
      obtain rfl : j = n := by omega
      go_wp2_with fail
      skip
      go_end0
      have hB : Below B w w1 := HTJ.out.toBelow (fun b hb => (HI.out.own.lts b (mem_all hb)).1) hBz
      exact ⟨rfl, HK.out, HTJ.out, hB⟩

end Go.Proofs.YtmblkllijjlkoaaGreat
