/-
  Texts put together: DrawN.
-/
import Derived.Test.YtkkebpcclklmcaaGB28
import Derived.Test.YtkkebpcclklmcaaGB18
import Derived.Test.YtkkebpcclklmcaaGB16
import Derived.Test.YtkkebpcclklmcaaGB17
import Derived.Deep.RegionHeld3
/-
  A new page of a kernel behind a pointer, by the reference: nothing but the kernel is written.
-/
set_option linter.unusedVariables false
set_option linter.unusedSimpArgs false
namespace Go.Proofs.Ytkkebpcclklmcaa
open Go.RowKit
set_option maxRecDepth 20000 in
set_option maxHeartbeats 3200000 in
theorem s_l08NewT (B g : Nat) (y : KV) (K : Ker) (p : Int) (hcan : canCall K = true) (w : World) (h : KIn B w g y K) : Calls Try.prog 60 #[.pointer (some ⟨g, 0, none⟩), .int .i64 p] w (KDoneT B g y w (newB K p) (mapNewS K p)) := by
  have HI := Lib.hid h
  obtain ⟨SS, hSS⟩ : ∃ S, S = g :: blocks y.all := ⟨_, rfl⟩
  have HSS := Lib.hid hSS
  clear hSS
  obtain ⟨yco, ycc, yuo, yuc, yvs, yeo, yec, yro, yrc, rfl⟩ := h.own.shapes
  have hle9 : K.m.ents.length ≤ 9223372036854775807 := by have := (can_len hcan).2.2; omega
  have hul9 : K.m.f.used.length ≤ 9223372036854775807 := by have := can_len hcan; omega
  clear h
  obtain ⟨xg, c0, c1, c2, c3, c4, f0, f1, f2, f3, f4⟩ := HI.out.box
  dsimp only at c0 c1 c2
  have CALL := Lib.hid (fun y W (h : KIn B W g y K) => s_l08CallT B g y K (canCall_calls hcan) W h)
  obtain ⟨fi, hfi⟩ : ∃ fi, fi = freeIx K.m.f.used := ⟨_, rfl⟩
  have HFX := Lib.hid hfi.symm
  cases h2 : grantedB K
  · rw [h2] at CALL
    have HE : Hid (newB K p = false ∧ mapNewS K p = countedK K) := by unfold Hid mapNewS newB; rw [h2]; exact ⟨rfl, rfl⟩
    rw [HE.out.1, HE.out.2]
    (have hall := all_nil w; go_enter Try.func60, Try.ntmps60)
    go_wp2_with (first | (go_at_call 82; (refine (s_l05Free _ _ K.m.f.used _ (SlAt.below (HI.out.own.m.f.used.at lenBool) (by exact bel))).mono ?_; rintro e w2 ⟨rfl, hb⟩; (try rw [HFX.out]); have HB0 := Lib.hid hb; (have K2x := HI.out.below hb); clear hb; have KI0 := Lib.hid K2x; clear K2x; have HT0 := Lib.hid (touch_of_below HB0.out SS); obtain ⟨w0, rfl⟩ : ∃ x, x = w2 := ⟨_, rfl⟩)) | (go_at_call 83; (refine (CALL.out _ _ KI0.out).mono ?_; rintro e w2 ⟨rfl, hki, hb, ht⟩; (rw [← HSS.out] at ht); (have HT1 := Lib.hid (HT0.out.trans ht)); clear ht HT0; (have hB0 := HB0.out); (have HB1 := Lib.hid ((hB0.mono (by have := HI.out.hB; have := HI.out.box.lt; omega)).trans hb)); clear hB0 hb; have KI := Lib.hid hki; (obtain ⟨xg, c0, c1, c2, c3, c4, f0, f1, f2, f3, f4⟩ := hki.box); (dsimp only at c2); clear hki; obtain ⟨wa, rfl⟩ : ∃ x, x = w2 := ⟨_, rfl⟩)))
    go_ret
    have hz := HI.out.box.lt; have hBg := HI.out.hB; have hs1 := HB1.out.size; have hB1 := HB1.out
    exact ⟨_, rfl, KI.out, by exact bel, HSS.out ▸ HT1.out, fun b hb => .inl hb⟩
  · rw [h2] at CALL
    cases h4 : between p 0 (K.m.ents.length - 1)
    · have HE : Hid (newB K p = false ∧ mapNewS K p = countedK K) := by unfold Hid mapNewS newB; rw [h2, h4]; exact ⟨rfl, rfl⟩
      rw [HE.out.1, HE.out.2]
      (have hall := all_nil w; go_enter Try.func60, Try.ntmps60)
      go_wp2_with (first | (go_at_call 82; (refine (s_l05Free _ _ K.m.f.used _ (SlAt.below (HI.out.own.m.f.used.at lenBool) (by exact bel))).mono ?_; rintro e w2 ⟨rfl, hb⟩; (try rw [HFX.out]); have HB0 := Lib.hid hb; (have K2x := HI.out.below hb); clear hb; have KI0 := Lib.hid K2x; clear K2x; have HT0 := Lib.hid (touch_of_below HB0.out SS); obtain ⟨w0, rfl⟩ : ∃ x, x = w2 := ⟨_, rfl⟩)) | (go_at_call 83; (refine (CALL.out _ _ KI0.out).mono ?_; rintro e w2 ⟨rfl, hki, hb, ht⟩; (rw [← HSS.out] at ht); (have HT1 := Lib.hid (HT0.out.trans ht)); clear ht HT0; (have hB0 := HB0.out); (have HB1 := Lib.hid ((hB0.mono (by have := HI.out.hB; have := HI.out.box.lt; omega)).trans hb)); clear hB0 hb; have KI := Lib.hid hki; (obtain ⟨xg, c0, c1, c2, c3, c4, f0, f1, f2, f3, f4⟩ := hki.box); (dsimp only at c2); clear hki; obtain ⟨wa, rfl⟩ : ∃ x, x = w2 := ⟨_, rfl⟩)) | (go_at_call 47; ((refine (s_l01In _ _ _ false (by assumption) _).mono ?_)); rintro e w2 ⟨rfl, rfl⟩))
      go_ret
      have hz := HI.out.box.lt; have hBg := HI.out.hB; have hs1 := HB1.out.size; have hB1 := HB1.out
      exact ⟨_, rfl, KI.out, by exact bel, HSS.out ▸ HT1.out, fun b hb => .inl hb⟩
    · cases h5 : mappedB K.m.ents p
      · have HM := Lib.hid (mapped_not h5)
        cases h3 : decide (0 ≤ freeIx K.m.f.used)
        · have hneg : fi < 0 := by rw [hfi]; simpa using h3
          have HE : Hid (newB K p = false ∧ mapNewS K p = countedK K) := by unfold Hid mapNewS newB; rw [h2, h4, h5, h3]; exact ⟨rfl, rfl⟩
          rw [HE.out.1, HE.out.2]
          (have hall := all_nil w; go_enter Try.func60, Try.ntmps60)
          go_wp2_with (first | (go_at_call 82; (refine (s_l05Free _ _ K.m.f.used _ (SlAt.below (HI.out.own.m.f.used.at lenBool) (by exact bel))).mono ?_; rintro e w2 ⟨rfl, hb⟩; (try rw [HFX.out]); have HB0 := Lib.hid hb; (have K2x := HI.out.below hb); clear hb; have KI0 := Lib.hid K2x; clear K2x; have HT0 := Lib.hid (touch_of_below HB0.out SS); obtain ⟨w0, rfl⟩ : ∃ x, x = w2 := ⟨_, rfl⟩)) | (go_at_call 83; (refine (CALL.out _ _ KI0.out).mono ?_; rintro e w2 ⟨rfl, hki, hb, ht⟩; (rw [← HSS.out] at ht); (have HT1 := Lib.hid (HT0.out.trans ht)); clear ht HT0; (have hB0 := HB0.out); (have HB1 := Lib.hid ((hB0.mono (by have := HI.out.hB; have := HI.out.box.lt; omega)).trans hb)); clear hB0 hb; have KI := Lib.hid hki; (obtain ⟨xg, c0, c1, c2, c3, c4, f0, f1, f2, f3, f4⟩ := hki.box); (dsimp only at c2); clear hki; obtain ⟨wa, rfl⟩ : ∃ x, x = w2 := ⟨_, rfl⟩)) | (go_at_call 84; (refine (s_mode KI.out p).mono ?_; rintro e w2 ⟨rfl, hb⟩; (try rw [HM.out]); (have hB1 := HB1.out; replace HB1 := Lib.hid (hB1.trans (hb.mono (by have := HI.out.hB; have := HI.out.box.lt; have := hB1.size; omega))); clear hB1); (have hT1 := HT1.out; replace HT1 := Lib.hid (hT1.trans (touch_of_below hb SS)); clear hT1); (have K2x := KI.out.below hb); clear KI; have KI := Lib.hid K2x; clear hb K2x; obtain ⟨wb, rfl⟩ : ∃ x, x = w2 := ⟨_, rfl⟩)) | (go_at_call 47; ((refine (s_l01In _ _ _ true (by assumption) _).mono ?_)); rintro e w2 ⟨rfl, rfl⟩))
          go_ret
          have hz := HI.out.box.lt; have hBg := HI.out.hB; have hs1 := HB1.out.size; have hB1 := HB1.out
          exact ⟨_, rfl, KI.out, by exact bel, HSS.out ▸ HT1.out, fun b hb => .inl hb⟩
        · have hbb := between_iff.1 h4
          obtain ⟨k, rfl⟩ := Int.eq_ofNat_of_zero_le hbb.1
          have hkl : k < K.m.ents.length := by omega
          obtain ⟨⟨em, ef⟩, hen⟩ := getx hkl
          have hlt' : (k : Int) < K.m.ents.length := by omega
          obtain ⟨i, hi, hui⟩ := freeIx_lt (by simpa using h3)
          have hil := getx_lt hui
          have hil' : (i : Int) < K.m.f.used.length := by omega
          have HE : Hid (newB K k = true ∧ mapNewS K k = setEnt (withF (countedK K) ⟨K.m.f.cells, K.m.f.used.set i true⟩) k ⟨2, i⟩) := by
            have e : newB K k = true := by unfold newB; rw [h2, h4, h5, h3]; rfl
            refine ⟨e, ?_⟩
            unfold mapNewS
            rw [e, hi, if_pos rfl, Int.toNat_natCast]
          rw [HE.out.1, HE.out.2]
          have hfi0 : fi = (i : Int) := by rw [hfi, hi]
          subst hfi0
          have HN := Lib.hid hen; have HKL := Lib.hid hkl; have HUI := Lib.hid hui; have HIL := Lib.hid hil
          obtain ⟨ge, gec, hge, -, -⟩ := Own.addr HI.out.own.m.ents (show 0 < K.m.ents.length by omega)
          simp only [Value.slice.injEq] at hge
          obtain ⟨rfl, -, rfl⟩ := hge
          obtain ⟨gu, guc, hgu, -, -⟩ := Own.addr HI.out.own.m.f.used (show 0 < K.m.f.used.length by omega)
          simp only [Value.slice.injEq] at hgu
          obtain ⟨rfl, -, rfl⟩ := hgu
          clear hen hkl hbb hi hui hil hfi h3
          (have hall := all_nil w; go_enter Try.func60, Try.ntmps60)
          go_wp2_with (first | (go_at_call 82; (refine (s_l05Free _ _ K.m.f.used _ (SlAt.below (HI.out.own.m.f.used.at lenBool) (by exact bel))).mono ?_; rintro e w2 ⟨rfl, hb⟩; (try rw [HFX.out]); have HB0 := Lib.hid hb; (have K2x := HI.out.below hb); clear hb; have KI0 := Lib.hid K2x; clear K2x; have HT0 := Lib.hid (touch_of_below HB0.out SS); obtain ⟨w0, rfl⟩ : ∃ x, x = w2 := ⟨_, rfl⟩)) | (go_at_call 83; (refine (CALL.out _ _ KI0.out).mono ?_; rintro e w2 ⟨rfl, hki, hb, ht⟩; (rw [← HSS.out] at ht); (have HT1 := Lib.hid (HT0.out.trans ht)); clear ht HT0; (have hB0 := HB0.out); (have HB1 := Lib.hid ((hB0.mono (by have := HI.out.hB; have := HI.out.box.lt; omega)).trans hb)); clear hB0 hb; have KI := Lib.hid hki; (obtain ⟨xg, c0, c1, c2, c3, c4, f0, f1, f2, f3, f4⟩ := hki.box); (dsimp only at c2); clear hki; obtain ⟨wa, rfl⟩ : ∃ x, x = w2 := ⟨_, rfl⟩)) | (go_at_call 84; (refine (s_mode KI.out k).mono ?_; rintro e w2 ⟨rfl, hb⟩; (try rw [HM.out]); (have hB1 := HB1.out; replace HB1 := Lib.hid (hB1.trans (hb.mono (by have := HI.out.hB; have := HI.out.box.lt; have := hB1.size; omega))); clear hB1); (have hT1 := HT1.out; replace HT1 := Lib.hid (hT1.trans (touch_of_below hb SS)); clear hT1); (have K2x := KI.out.below hb); clear KI; have KI := Lib.hid K2x; (obtain ⟨xg, c0, c1, c2, c3, c4, f0, f1, f2, f3, f4⟩ := K2x.box); (dsimp only at c1 c2); (obtain ⟨hBge, xge, e0, z0, e1, z1⟩ := OwnEnt.slot K2x.own.m.ents HN.out); (obtain ⟨hBu, xu, eu, zu⟩ := OwnB.slotB K2x.own.m.f.used HUI.out); (obtain ⟨n1, n2⟩ := K2x.neU rfl); (obtain ⟨n3, n4⟩ := K2x.neE rfl); (obtain ⟨n6, n7⟩ := neUE K2x.own rfl rfl); clear hb K2x; obtain ⟨wb, rfl⟩ : ∃ x, x = w2 := ⟨_, rfl⟩)) | (go_at_call 47; ((refine (s_l01In _ _ _ true (by assumption) _).mono ?_)); rintro e w2 ⟨rfl, rfl⟩))
          skip
          go_ret
          have hz := HI.out.box.lt; have hBg := HI.out.hB; have hs1 := HB1.out.size; have hB1 := HB1.out
          have KU := KIn.setUsed KI.out rfl i true
          have KE := KIn.setEnt KU rfl HKL.out 2 i
          have mg : g ∈ SS := by rw [HSS.out]; exact List.mem_cons_self ..
          have me : ge ∈ SS := by rw [HSS.out]; exact List.mem_cons_of_mem _ (mem_blocks.2 ⟨.slice (some ⟨ge, 0, none⟩) K.m.ents.length yec, by simp [KV.all, MV.all], rfl⟩)
          have mu : gu ∈ SS := by rw [HSS.out]; exact List.mem_cons_of_mem _ (mem_blocks.2 ⟨.slice (some ⟨gu, 0, none⟩) K.m.f.used.length yuc, by simp [KV.all, MV.all, FV.all], rfl⟩)
          refine ⟨_, rfl, KE, by exact bel, ?_, fun b hb => .inl hb⟩
          rw [← HSS.out]
          repeat (first | (with_reducible refine touch_cellT ?_ me) | (with_reducible refine touch_cellT ?_ mu))
          exact HT1.out
      · have HM : Hid ((pageEntry K.m.ents p).m = (pageEntry K.m.ents p).m) := rfl
        have hmm : ((pageEntry K.m.ents p).m != 0) = true := h5
        have HE : Hid (newB K p = false ∧ mapNewS K p = countedK K) := by unfold Hid mapNewS newB; rw [h2, h4, h5]; exact ⟨rfl, rfl⟩
        rw [HE.out.1, HE.out.2]
        (have hall := all_nil w; go_enter Try.func60, Try.ntmps60)
        go_wp2_with (first | (go_at_call 82; (refine (s_l05Free _ _ K.m.f.used _ (SlAt.below (HI.out.own.m.f.used.at lenBool) (by exact bel))).mono ?_; rintro e w2 ⟨rfl, hb⟩; (try rw [HFX.out]); have HB0 := Lib.hid hb; (have K2x := HI.out.below hb); clear hb; have KI0 := Lib.hid K2x; clear K2x; have HT0 := Lib.hid (touch_of_below HB0.out SS); obtain ⟨w0, rfl⟩ : ∃ x, x = w2 := ⟨_, rfl⟩)) | (go_at_call 83; (refine (CALL.out _ _ KI0.out).mono ?_; rintro e w2 ⟨rfl, hki, hb, ht⟩; (rw [← HSS.out] at ht); (have HT1 := Lib.hid (HT0.out.trans ht)); clear ht HT0; (have hB0 := HB0.out); (have HB1 := Lib.hid ((hB0.mono (by have := HI.out.hB; have := HI.out.box.lt; omega)).trans hb)); clear hB0 hb; have KI := Lib.hid hki; (obtain ⟨xg, c0, c1, c2, c3, c4, f0, f1, f2, f3, f4⟩ := hki.box); (dsimp only at c2); clear hki; obtain ⟨wa, rfl⟩ : ∃ x, x = w2 := ⟨_, rfl⟩)) | (go_at_call 84; (refine (s_mode KI.out p).mono ?_; rintro e w2 ⟨rfl, hb⟩; (try rw [HM.out]); (have hB1 := HB1.out; replace HB1 := Lib.hid (hB1.trans (hb.mono (by have := HI.out.hB; have := HI.out.box.lt; have := hB1.size; omega))); clear hB1); (have hT1 := HT1.out; replace HT1 := Lib.hid (hT1.trans (touch_of_below hb SS)); clear hT1); (have K2x := KI.out.below hb); clear KI; have KI := Lib.hid K2x; clear hb K2x; obtain ⟨wb, rfl⟩ : ∃ x, x = w2 := ⟨_, rfl⟩)) | (go_at_call 47; ((refine (s_l01In _ _ _ true (by assumption) _).mono ?_)); rintro e w2 ⟨rfl, rfl⟩))
        go_ret
        have hz := HI.out.box.lt; have hBg := HI.out.hB; have hs1 := HB1.out.size; have hB1 := HB1.out
        exact ⟨_, rfl, KI.out, by exact bel, HSS.out ▸ HT1.out, fun b hb => .inl hb⟩

end Go.Proofs.Ytkkebpcclklmcaa
