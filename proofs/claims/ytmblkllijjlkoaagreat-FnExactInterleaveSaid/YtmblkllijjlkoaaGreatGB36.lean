/-
  Texts put together: KMapOnS.
-/
import Derived.Test.YtmblkllijjlkoaaGreatGB26
import Derived.Test.YtmblkllijjlkoaaGreatGB4
/-
  A page is mapped on the frame of another: the reference's function.
-/
set_option linter.unusedVariables false
set_option linter.unusedSimpArgs false
namespace Go.Proofs.YtmblkllijjlkoaaGreat
open Go.RowKit
set_option maxRecDepth 20000 in
set_option maxHeartbeats 3200000 in
theorem s_l08OnT (B g : Nat) (y : KV) (K : Ker) (p o : Int) (hcan : canCall K = true) (w : World) (h : KIn B w g y K) : Calls Tryz.prog 114 #[.pointer (some ⟨g, 0, none⟩), .int .i64 p, .int .i64 o] w (KDoneT B g y w (onB K p o) (mapOnS K p o)) := by
  have HI := Lib.hid h
  clear h
  have CALL := Lib.hid (s_l08CallT B g y K (canCall_calls hcan) w HI.out)
  cases h2 : grantedB K
  · rw [h2] at CALL
    have HE : Hid (onB K p o = false ∧ mapOnS K p o = countedK K) := by unfold Hid mapOnS onB; rw [h2]; exact ⟨rfl, rfl⟩
    rw [HE.out.1, HE.out.2]
    (have hall := all_nil w; go_enter Tryz.func114, Tryz.ntmps114)
    go_wp2_with ((go_at_call 154; (refine (CALL.out).mono ?_; rintro e w2 ⟨rfl, hki, hb, ht⟩; have KI := Lib.hid hki; have HB1 := Lib.hid hb; have HT1 := Lib.hid ht; clear hki hb ht; obtain ⟨wa, rfl⟩ : ∃ x, x = w2 := ⟨_, rfl⟩)))
    go_ret
    exact ⟨_, rfl, KI.out, HB1.out, HT1.out, fun b hb => .inl hb⟩
  · rw [h2] at CALL
    cases h3 : mappedB K.m.ents p
    · have HE : Hid (onB K p o = false ∧ mapOnS K p o = countedK K) := by unfold Hid mapOnS onB; rw [h2, h3]; exact ⟨rfl, rfl⟩
      have HM := Lib.hid (mapped_not h3)
      rw [HE.out.1, HE.out.2]
      (have hall := all_nil w; go_enter Tryz.func114, Tryz.ntmps114)
      go_wp2_with (first | (go_at_call 154; (refine (CALL.out).mono ?_; rintro e w2 ⟨rfl, hki, hb, ht⟩; have KI := Lib.hid hki; have HB1 := Lib.hid hb; have HT1 := Lib.hid ht; clear hki hb ht; obtain ⟨wa, rfl⟩ : ∃ x, x = w2 := ⟨_, rfl⟩)) | (go_at_call 91; with_reducible refine (s_mode KI.out p).mono ?_; rintro e w2 ⟨rfl, hb⟩; rw [HM.out]; (have hT1 := HT1.out; replace HT1 := Lib.hid (hT1.trans (touch_of_below hb _)); clear hT1); (have hB1 := HB1.out; replace HB1 := Lib.hid (hB1.trans (hb.mono (by have := HI.out.hB; have := HI.out.box.lt; have := hB1.size; omega))); clear hB1); (have K2x := KI.out.below hb); clear KI; have KI := Lib.hid K2x; clear hb K2x; obtain ⟨wb, rfl⟩ : ∃ x, x = w2 := ⟨_, rfl⟩))
      go_ret
      have hz := HI.out.box.lt; have hBg := HI.out.hB; have hs1 := HB1.out.size; have hB1 := HB1.out
      exact ⟨_, rfl, KI.out, by exact bel, HT1.out, fun b hb => .inl hb⟩
    · obtain ⟨k, em, fr, rfl, hen, hpe, hfu, hfc, hes⟩ := mapped_frame hcan h3
      have hem : (em == 0) = false := by have h3' := h3; unfold mappedB at h3'; rw [hpe] at h3'; simpa using h3'
      have HPE := Lib.hid hpe
      cases h4 : mappedB K.m.ents o
      · have HE : Hid (onB K k o = false ∧ mapOnS K k o = countedK K) := by unfold Hid mapOnS onB; rw [h2, h3, h4]; exact ⟨rfl, rfl⟩
        have HM := Lib.hid (mapped_not h4)
        rw [HE.out.1, HE.out.2]
        clear hen hpe hfu hfc hes
        (have hall := all_nil w; go_enter Tryz.func114, Tryz.ntmps114)
        go_wp2_with (first | (go_at_call 154; (refine (CALL.out).mono ?_; rintro e w2 ⟨rfl, hki, hb, ht⟩; have KI := Lib.hid hki; have HB1 := Lib.hid hb; have HT1 := Lib.hid ht; clear hki hb ht; obtain ⟨wa, rfl⟩ : ∃ x, x = w2 := ⟨_, rfl⟩)) | (go_at_call 91; with_reducible refine (s_mode KI.out k).mono ?_; rintro e w2 ⟨rfl, hb⟩; rw [HPE.out]; (have hT1 := HT1.out; replace HT1 := Lib.hid (hT1.trans (touch_of_below hb _)); clear hT1); (have hB1 := HB1.out; replace HB1 := Lib.hid (hB1.trans (hb.mono (by have := HI.out.hB; have := HI.out.box.lt; have := hB1.size; omega))); clear hB1); (have K2x := KI.out.below hb); clear KI; have KI := Lib.hid K2x; clear hb K2x; obtain ⟨wb, rfl⟩ : ∃ x, x = w2 := ⟨_, rfl⟩) | (go_at_call 91; with_reducible refine (s_mode KI.out o).mono ?_; rintro e w2 ⟨rfl, hb⟩; rw [HM.out]; (have hT1 := HT1.out; replace HT1 := Lib.hid (hT1.trans (touch_of_below hb _)); clear hT1); (have hB1 := HB1.out; replace HB1 := Lib.hid (hB1.trans (hb.mono (by have := HI.out.hB; have := HI.out.box.lt; have := hB1.size; omega))); clear hB1); (have K2x := KI.out.below hb); clear KI; have KI := Lib.hid K2x; clear hb K2x; obtain ⟨wc, rfl⟩ : ∃ x, x = w2 := ⟨_, rfl⟩))
        go_ret
        have hz := HI.out.box.lt; have hBg := HI.out.hB; have hs1 := HB1.out.size; have hB1 := HB1.out
        exact ⟨_, rfl, KI.out, by exact bel, HT1.out, fun b hb => .inl hb⟩
      · obtain ⟨l, om, fo, rfl, hon, hpo, -, -, -⟩ := mapped_frame hcan h4
        have hom : (om == 0) = false := by have h4' := h4; unfold mappedB at h4'; rw [hpo] at h4'; simpa using h4'
        have HPO := Lib.hid hpo
        by_cases hkl : k = l
        · subst hkl
          have HE : Hid (onB K k k = false ∧ mapOnS K k k = countedK K) := by unfold Hid mapOnS onB; rw [h2, h3]; simp
          rw [HE.out.1, HE.out.2]
          have hb5 : ((k : Int) == k) = true := by simp
          clear hen hpe hfu hfc hes hon hpo
          (have hall := all_nil w; go_enter Tryz.func114, Tryz.ntmps114)
          go_wp2_with (first | (go_at_call 154; (refine (CALL.out).mono ?_; rintro e w2 ⟨rfl, hki, hb, ht⟩; have KI := Lib.hid hki; have HB1 := Lib.hid hb; have HT1 := Lib.hid ht; clear hki hb ht; obtain ⟨wa, rfl⟩ : ∃ x, x = w2 := ⟨_, rfl⟩)) | (go_at_call 91; with_reducible refine (s_mode KI.out k).mono ?_; rintro e w2 ⟨rfl, hb⟩; rw [HPE.out]; (have hT1 := HT1.out; replace HT1 := Lib.hid (hT1.trans (touch_of_below hb _)); clear hT1); (have hB1 := HB1.out; replace HB1 := Lib.hid (hB1.trans (hb.mono (by have := HI.out.hB; have := HI.out.box.lt; have := hB1.size; omega))); clear hB1); (have K2x := KI.out.below hb); clear KI; have KI := Lib.hid K2x; clear hb K2x; obtain ⟨wb, rfl⟩ : ∃ x, x = w2 := ⟨_, rfl⟩))
          go_ret
          have hz := HI.out.box.lt; have hBg := HI.out.hB; have hs1 := HB1.out.size; have hB1 := HB1.out
          exact ⟨_, rfl, KI.out, by exact bel, HT1.out, fun b hb => .inl hb⟩
        · have hb5 : ((k : Int) == l) = false := by simp; omega
          have HE : Hid (onB K k l = true ∧ mapOnS K k l = dropK (setEnt (countedK K) k ⟨2, fo⟩) fr) := by
            have e : onB K k l = true := by unfold onB; rw [h2, h3, h4]; simp; omega
            unfold Hid mapOnS; rw [e, hpe, hpo]; exact ⟨rfl, rfl⟩
          rw [HE.out.1, HE.out.2]
          have HN := Lib.hid hen; have HKL := Lib.hid (getx_lt hen); have HFU := Lib.hid hfu; have HFC := Lib.hid hfc; have HES := Lib.hid hes
          have HNo := Lib.hid hon; have HLL := Lib.hid (getx_lt hon)
          have hlt' : (k : Int) < K.m.ents.length := by have := HKL.out; omega
          have hltl : (l : Int) < K.m.ents.length := by have := HLL.out; omega
          have hle9 : K.m.ents.length ≤ 9223372036854775807 := by omega
          obtain ⟨yco, ycc, yuo, yuc, yvs, yeo, yec, yro, yrc, rfl⟩ := HI.out.own.shapes
          obtain ⟨ge, gec, hge, -, -⟩ := Own.addr HI.out.own.m.ents (show 0 < K.m.ents.length by omega)
          simp only [Value.slice.injEq] at hge
          obtain ⟨rfl, -, rfl⟩ := hge
          clear hen hpe hfu hfc hes hon hpo
          obtain ⟨K2, hK2⟩ : ∃ K2, K2 = dropK (setEnt (countedK K) k ⟨2, fo⟩) fr := ⟨_, rfl⟩
          have HK2 := Lib.hid hK2
          rw [← hK2]
          clear hK2
          (have hall := all_nil w; go_enter Tryz.func114, Tryz.ntmps114)
          go_wp2_with (first | (go_at_call 154; (refine (CALL.out).mono ?_; rintro e w2 ⟨rfl, hki, hb, ht⟩; have KI := Lib.hid hki; have HB1 := Lib.hid hb; have HT1 := Lib.hid ht; clear hki hb ht; obtain ⟨wa, rfl⟩ : ∃ x, x = w2 := ⟨_, rfl⟩)) | (go_at_call 91; with_reducible refine (s_mode KI.out k).mono ?_; rintro e w2 ⟨rfl, hb⟩; rw [HPE.out]; (have hT1 := HT1.out; replace HT1 := Lib.hid (hT1.trans (touch_of_below hb _)); clear hT1); (have hB1 := HB1.out; replace HB1 := Lib.hid (hB1.trans (hb.mono (by have := HI.out.hB; have := HI.out.box.lt; have := hB1.size; omega))); clear hB1); (have K2x := KI.out.below hb); clear KI; have KI := Lib.hid K2x; clear hb K2x; obtain ⟨wb, rfl⟩ : ∃ x, x = w2 := ⟨_, rfl⟩) | (go_at_call 91; with_reducible refine (s_mode KI.out l).mono ?_; rintro e w2 ⟨rfl, hb⟩; rw [HPO.out]; (have hT1 := HT1.out; replace HT1 := Lib.hid (hT1.trans (touch_of_below hb _)); clear hT1); (have hB1 := HB1.out; replace HB1 := Lib.hid (hB1.trans (hb.mono (by have := HI.out.hB; have := HI.out.box.lt; have := hB1.size; omega))); clear hB1); (have K2x := KI.out.below hb); clear KI; have KI := Lib.hid K2x; (obtain ⟨xg, c0, c1, c2, c3, c4, f0, f1, f2, f3, f4⟩ := K2x.box); (dsimp only at c2); (obtain ⟨hBge, xge, e0, z0, e1, z1⟩ := OwnEnt.slot K2x.own.m.ents HN.out); (obtain ⟨-, -, -, -, e2, -⟩ := OwnEnt.slot K2x.own.m.ents HNo.out); (dsimp only at e0 e1 e2); clear hb K2x; obtain ⟨wc, rfl⟩ : ∃ x, x = w2 := ⟨_, rfl⟩) | (with_reducible refine wp_region_grew_tail2 (id := 4) 19 (by kernel_rfl) (by kernel_rfl) ?_; intro w2 hb; have kwd_g_2 : w2.cell? ⟨g, 2, none⟩ = some (.slice (some ⟨ge, 0, none⟩) K.m.ents.length yec) := kc hb; have kwd_G0 : w2.cell? ⟨ge, k * 2, none⟩ = some (.int .i64 em) := kc hb; have fwd_G0 : w2.frozen? ⟨ge, k * 2, none⟩ = false := fc hb; have kwd_G1 : w2.cell? ⟨ge, k * 2 + 1, none⟩ = some (.int .i64 fr) := kc hb; have fwd_G1 : w2.frozen? ⟨ge, k * 2 + 1, none⟩ = false := fc hb; have kwd_G2 : w2.cell? ⟨ge, l * 2 + 1, none⟩ = some (.int .i64 fo) := kc hb; have xwd_g : g < w2.heap.size := xc hb; have xwd_G : ge < w2.heap.size := xc hb; have hzwd := hb.size; (try simp only [World.size_alloc, World.size_setCell, World.size_drew] at hzwd); have HBT := Lib.hid hb; obtain ⟨wd, rfl⟩ : ∃ x, x = w2 := ⟨_, rfl⟩; simp only [List.take_succ_cons, List.take_zero, List.drop_succ_cons, List.drop_zero]; (repeat (go_big_quiet_step (fail))); refine wpQuiet_nil ?_; intro w2 hw'; have hb := grew_below hw'; clear hw'; have kwe_g_2 : w2.cell? ⟨g, 2, none⟩ = some (.slice (some ⟨ge, 0, none⟩) K.m.ents.length yec) := kc hb; have kwe_G0 : w2.cell? ⟨ge, k * 2, none⟩ = some (.int .i64 em) := kc hb; have fwe_G0 : w2.frozen? ⟨ge, k * 2, none⟩ = false := fc hb; have kwe_G1 : w2.cell? ⟨ge, k * 2 + 1, none⟩ = some (.int .i64 fr) := kc hb; have fwe_G1 : w2.frozen? ⟨ge, k * 2 + 1, none⟩ = false := fc hb; have kwe_G2 : w2.cell? ⟨ge, l * 2 + 1, none⟩ = some (.int .i64 fo) := kc hb; have xwe_g : g < w2.heap.size := xc hb; have xwe_G : ge < w2.heap.size := xc hb; have hzwe := hb.size; (try simp only [World.size_alloc, World.size_setCell, World.size_drew] at hzwe); obtain ⟨we, rfl⟩ : ∃ x, x = w2 := ⟨_, rfl⟩) | (go_at_call 155; (refine (s_l08DropT B g _ (setEnt (countedK K) k ⟨2, fo⟩) fr (by simpa [setEnt] using HES.out) HFU.out HFC.out _ (KIn.setEnt (KI.out.below (by exact bel)) rfl HKL.out 2 fo)).mono ?_; rintro e w2 ⟨z, rfl, hki, hb, ht, hfr⟩; have KZ := Lib.hid hki; have HB3 := Lib.hid hb; have HT3 := Lib.hid ht; have HF3 := Lib.hid hfr; clear hki hb ht hfr; obtain ⟨wf, rfl⟩ : ∃ x, x = w2 := ⟨_, rfl⟩)))
          skip
          go_ret
          rw [HK2.out]
          have hz := HI.out.box.lt; have hBg := HI.out.hB; have hs1 := HB1.out.size; have hB1 := HB1.out
          have hB3 := HB3.out
          have me : ge ∈ g :: blocks (KV.all ⟨⟨⟨.slice yco yvs.length ycc, .slice yuo K.m.f.used.length yuc, yvs⟩, .slice (some ⟨ge, 0, none⟩) K.m.ents.length yec⟩, .slice yro K.refuse.length yrc⟩) := List.mem_cons_of_mem _ (mem_blocks.2 ⟨.slice (some ⟨ge, 0, none⟩) K.m.ents.length yec, by simp [KV.all, MV.all], rfl⟩)
          have hBT := HBT.out
          exact ⟨_, rfl, KZ.out, by exact bel, (HT1.out.trans (by repeat (first | (with_reducible refine touch_cellT ?_ me) | (exact touch_of_below (by exact bel) _)))).trans HT3.out, fun b hb => (HF3.out b hb).imp id fun h => by have := HT1.out.size; have := hBT.size; (try simp only [World.size_setCell, World.size_drew] at *); omega⟩
theorem s_l08On (B g : Nat) (y : KV) (K : Ker) (p o : Int) (hcan : canCall K = true) (w : World) (h : KIn B w g y K) : Calls Tryz.prog 114 #[.pointer (some ⟨g, 0, none⟩), .int .i64 p, .int .i64 o] w (KDone B g w (onB K p o) (mapOnS K p o)) :=
  (s_l08OnT B g y K p o hcan w h).mono fun e w' ⟨y', h1, h2, h3, _⟩ => ⟨y', h1, h2, h3⟩


end Go.Proofs.YtmblkllijjlkoaaGreat
