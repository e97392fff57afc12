/-
  The reference's protection of a page.
-/
import Derived.Test.YtmblkllijjlkoaaGreatKBox
set_option linter.unusedVariables false
set_option linter.unusedSimpArgs false
namespace Go.Proofs.YtmblkllijjlkoaaGreat
open Go.RowKit
/-- The mode of a page, asked behind the pointer. -/
theorem s_mode {B g : Nat} {y : KV} {K : Ker} {w : World} (h : KIn B w g y K) (p : Int) : Calls Tryz.prog 91 #[.pointer (some ⟨g, 0, none⟩), .int .i64 p] w fun e w' => e = .returned (.int .i64 (pageEntry K.m.ents p).m) ∧ Below w.heap.size w w' :=
  s_l08Mode g y.m.e K.m.ents p w h.box.lt h.box.c2 (h.own.m.ents.at lenEnt)
theorem KIn.setMode {B : Nat} {w : World} {gb : Nat} {y : KV} {K : Ker} {g n cap i : Nat} {x : Ent} (h : KIn B w gb y K) (hv : y.m.e = .slice (some ⟨g, 0, none⟩) n cap) (hi : K.m.ents[i]? = some x) (m : Int) :
    KIn B (w.setCell ⟨g, i * 2, none⟩ (.int .i64 m)) gb y (setEnt K i ⟨m, x.f⟩) := by
  refine ⟨?_, KOwn.setMode h.own hv hi m, h.hB, h.ne⟩
  have hne : gb ≠ g := fun e => h.ne (by rw [e]; exact mem_blocks.2 ⟨y.m.e, by simp [KV.all, MV.all], by rw [hv]; rfl⟩)
  exact h.box.touch (S := [g]) (grown_touch (r := some g) (grown_setCell (grown_refl w _) _ _) (by simp)) (by simpa using hne)
theorem mapped_not {es : List Ent} {p : Int} (h : mappedB es p = false) : (pageEntry es p).m = 0 := by
  unfold mappedB at h; simpa using h
set_option maxRecDepth 20000 in
set_option maxHeartbeats 1600000 in
theorem s_l08ProtectT (B g : Nat) (y : KV) (K : Ker) (p mode : Int) (hc : 0 ≤ K.calls ∧ K.calls ≤ 100000) (w : World) (h : KIn B w g y K) : Calls Tryz.prog 112 #[.pointer (some ⟨g, 0, none⟩), .int .i64 p, .int .i64 mode] w fun e w' => e = .returned (.bool (protB K p mode)) ∧ KIn B w' g y (if protB K p mode then setEnt (countedK K) p ⟨mode, (pageEntry K.m.ents p).f⟩ else countedK K) ∧ Below B w w' ∧ Touch (g :: blocks y.all) w w' := by
  have HI := Lib.hid h
  have HC := Lib.hid hc
  clear h hc
  have CALL := Lib.hid (s_l08CallT B g y K HC.out w HI.out)
  cases h2 : grantedB K
  · rw [h2] at CALL
    have HE : Hid (protB K p mode = false) := by unfold Hid protB; rw [h2]; rfl
    rw [HE.out, if_neg Bool.false_ne_true]
    (have hall := all_nil w; go_enter Tryz.func112, Tryz.ntmps112)
    go_wp2_with (first | (go_at_call 154; (refine (CALL.out).mono ?_; rintro e w2 ⟨rfl, hki, hb, ht⟩; have KI := Lib.hid hki; have HB1 := Lib.hid hb; have HT1 := Lib.hid ht; clear hki hb ht; obtain ⟨wa, rfl⟩ : ∃ x, x = w2 := ⟨_, rfl⟩)) | (with_reducible refine wp_region_grew2 (by kernel_rfl) (by kernel_rfl) ?_; intro w2 hb; (first | have hn := nw4 hb hall (by exact zo) | have hn := nw3 hb hall (by exact zo) | have hn := nw2 hb hall (by exact zo) | have hn := nw1 hb hall (by exact zo) | have hn := nw0 hb hall (by exact zo)); obtain ⟨hc, hf, hn, hc0⟩ := hn; replace hall := hn; clear hn; have hz := hb.size; (try simp only [World.size_alloc, World.size_setCell, World.size_drew] at hz); have hx := hall; (try simp only [allLt, and_true] at hx); obtain ⟨w1, rfl⟩ : ∃ x, x = w2 := ⟨_, rfl⟩; (repeat (go_big_quiet_step (fail))); refine wpQuiet_nil ?_; intro w2 hw'; have hb := grew_below hw'; clear hw'; (first | have hn := nw4 hb hall (by exact zo) | have hn := nw3 hb hall (by exact zo) | have hn := nw2 hb hall (by exact zo) | have hn := nw1 hb hall (by exact zo) | have hn := nw0 hb hall (by exact zo)); obtain ⟨hc, hf, hn, hc0⟩ := hn; replace hall := hn; clear hn; have hz := hb.size; (try simp only [World.size_alloc, World.size_setCell, World.size_drew] at hz); have hx := hall; (try simp only [allLt, and_true] at hx); obtain ⟨w1, rfl⟩ : ∃ x, x = w2 := ⟨_, rfl⟩))
    go_ret
    exact ⟨rfl, KI.out, HB1.out, HT1.out⟩
  · rw [h2] at CALL
    cases h3 : mappedB K.m.ents p
    · have HE : Hid (protB K p mode = false) := by unfold Hid protB; rw [h2, h3]; rfl
      have HM := Lib.hid (mapped_not h3)
      rw [HE.out, if_neg Bool.false_ne_true]
      (have hall := all_nil w; go_enter Tryz.func112, Tryz.ntmps112)
      go_wp2_with (first | (go_at_call 154; (refine (CALL.out).mono ?_; rintro e w2 ⟨rfl, hki, hb, ht⟩; have KI := Lib.hid hki; have HB1 := Lib.hid hb; have HT1 := Lib.hid ht; clear hki hb ht; obtain ⟨wa, rfl⟩ : ∃ x, x = w2 := ⟨_, rfl⟩)) | (go_at_call 91; (refine (s_mode KI.out p).mono ?_; rintro e w2 ⟨rfl, hb⟩; (try rw [HM.out]); have HB2 := Lib.hid hb; clear hb; obtain ⟨wb, rfl⟩ : ∃ x, x = w2 := ⟨_, rfl⟩)) | (with_reducible refine wp_region_grew2 (by kernel_rfl) (by kernel_rfl) ?_; intro w2 hb; (first | have hn := nw4 hb hall (by exact zo) | have hn := nw3 hb hall (by exact zo) | have hn := nw2 hb hall (by exact zo) | have hn := nw1 hb hall (by exact zo) | have hn := nw0 hb hall (by exact zo)); obtain ⟨hc, hf, hn, hc0⟩ := hn; replace hall := hn; clear hn; have hz := hb.size; (try simp only [World.size_alloc, World.size_setCell, World.size_drew] at hz); have hx := hall; (try simp only [allLt, and_true] at hx); obtain ⟨w1, rfl⟩ : ∃ x, x = w2 := ⟨_, rfl⟩; (repeat (go_big_quiet_step (fail))); refine wpQuiet_nil ?_; intro w2 hw'; have hb := grew_below hw'; clear hw'; (first | have hn := nw4 hb hall (by exact zo) | have hn := nw3 hb hall (by exact zo) | have hn := nw2 hb hall (by exact zo) | have hn := nw1 hb hall (by exact zo) | have hn := nw0 hb hall (by exact zo)); obtain ⟨hc, hf, hn, hc0⟩ := hn; replace hall := hn; clear hn; have hz := hb.size; (try simp only [World.size_alloc, World.size_setCell, World.size_drew] at hz); have hx := hall; (try simp only [allLt, and_true] at hx); obtain ⟨w1, rfl⟩ : ∃ x, x = w2 := ⟨_, rfl⟩))
      go_ret
      have hB1 := HB1.out; have hB2 := HB2.out
      have hz := KI.out.box.lt; have hBg := KI.out.hB
      exact ⟨rfl, KI.out.below hB2, by exact bel, HT1.out.trans (touch_of_below hB2 _)⟩
    · obtain ⟨k, en, rfl, hen, hpe⟩ := mapped_in h3
      obtain ⟨yco, ycc, yuo, yuc, yvs, yeo, yec, yro, yrc, rfl⟩ := HI.out.own.shapes
      obtain ⟨ge, gec, hge, -, -⟩ := Own.addr HI.out.own.m.ents (getx_lt hen |> Nat.lt_of_le_of_lt (Nat.zero_le _))
      simp only [Value.slice.injEq] at hge
      obtain ⟨rfl, -, rfl⟩ := hge
      have HN := Lib.hid hen
      have HPE := Lib.hid hpe
      have hlt' : (k : Int) < K.m.ents.length := by have := getx_lt hen; omega
      have hltN : k < K.m.ents.length := getx_lt hen
      have hle9 : K.m.ents.length ≤ 9223372036854775807 := by
        obtain ⟨_, _, _, h1, h2⟩ := (HI.out.own.m.ents.at lenEnt).shape
        unfold maxLen at h2; omega
      have hm0 : (en.m == 0) = false := by unfold mappedB at h3; rw [hpe] at h3; simpa using h3
      clear hen hpe
      rw [HPE.out]
      cases h4 : between mode 1 2
      · have HE : Hid (protB K k mode = false) := by unfold Hid protB; rw [h2, h3, h4]; rfl
        rw [HE.out, if_neg Bool.false_ne_true]
        (have hall := all_nil w; go_enter Tryz.func112, Tryz.ntmps112)
        go_wp2_with (first | (go_at_call 154; (refine (CALL.out).mono ?_; rintro e w2 ⟨rfl, hki, hb, ht⟩; have KI := Lib.hid hki; have HB1 := Lib.hid hb; have HT1 := Lib.hid ht; clear hki hb ht; obtain ⟨wa, rfl⟩ : ∃ x, x = w2 := ⟨_, rfl⟩)) | (go_at_call 91; (refine (s_mode KI.out k).mono ?_; rintro e w2 ⟨rfl, hb⟩; rw [HPE.out]; have HB2 := Lib.hid hb; clear hb; obtain ⟨wb, rfl⟩ : ∃ x, x = w2 := ⟨_, rfl⟩)) | (go_at_call 49; (first | (refine (s_l01In _ _ _ true (by assumption) _).mono ?_) | (refine (s_l01In _ _ _ false (by assumption) _).mono ?_) | (refine (s_l01In _ _ _ _ rfl _).mono ?_)); rintro e w2 ⟨rfl, rfl⟩) | (with_reducible refine wp_region_grew2 (by kernel_rfl) (by kernel_rfl) ?_; intro w2 hb; (first | have hn := nw4 hb hall (by exact zo) | have hn := nw3 hb hall (by exact zo) | have hn := nw2 hb hall (by exact zo) | have hn := nw1 hb hall (by exact zo) | have hn := nw0 hb hall (by exact zo)); obtain ⟨hc, hf, hn, hc0⟩ := hn; replace hall := hn; clear hn; have hz := hb.size; (try simp only [World.size_alloc, World.size_setCell, World.size_drew] at hz); have hx := hall; (try simp only [allLt, and_true] at hx); obtain ⟨w1, rfl⟩ : ∃ x, x = w2 := ⟨_, rfl⟩; (repeat (go_big_quiet_step (first | (go_at_call 49; first | exact calls_same (s_l01In _ _ _ true (by assumption) _) | exact calls_same (s_l01In _ _ _ false (by assumption) _) | exact calls_same (s_l01In _ _ _ _ rfl _))))); refine wpQuiet_nil ?_; intro w2 hw'; have hb := grew_below hw'; clear hw'; (first | have hn := nw4 hb hall (by exact zo) | have hn := nw3 hb hall (by exact zo) | have hn := nw2 hb hall (by exact zo) | have hn := nw1 hb hall (by exact zo) | have hn := nw0 hb hall (by exact zo)); obtain ⟨hc, hf, hn, hc0⟩ := hn; replace hall := hn; clear hn; have hz := hb.size; (try simp only [World.size_alloc, World.size_setCell, World.size_drew] at hz); have hx := hall; (try simp only [allLt, and_true] at hx); obtain ⟨w1, rfl⟩ : ∃ x, x = w2 := ⟨_, rfl⟩))
        go_ret
        have hB1 := HB1.out; have hB2 := HB2.out
        have hz := KI.out.box.lt; have hBg := KI.out.hB
        exact ⟨rfl, KI.out.below hB2, by exact bel, HT1.out.trans (touch_of_below hB2 _)⟩
      · have HE : Hid (protB K k mode = true) := by unfold Hid protB; rw [h2, h3, h4]; rfl
        rw [HE.out, if_pos rfl]
        (have hall := all_nil w; go_enter Tryz.func112, Tryz.ntmps112)
        go_wp2_with (first | (go_at_call 154; (refine (CALL.out).mono ?_; rintro e w2 ⟨rfl, hki, hb, ht⟩; have KI := Lib.hid hki; have HB1 := Lib.hid hb; have HT1 := Lib.hid ht; clear hki hb ht; obtain ⟨wa, rfl⟩ : ∃ x, x = w2 := ⟨_, rfl⟩)) | (go_at_call 91; (refine (s_mode KI.out k).mono ?_; rintro e w2 ⟨rfl, hb⟩; rw [HPE.out]; have HB2 := Lib.hid hb; (have K2 := KI.out.below hb); (obtain ⟨xg, c0, c1, c2, c3, c4, f0, f1, f2, f3, f4⟩ := K2.box); (dsimp only at c2); (obtain ⟨hBge, xge, e0, z0, e1, z1⟩ := OwnEnt.slot K2.own.m.ents HN.out); have KJ := Lib.hid K2; clear hb K2; obtain ⟨wb, rfl⟩ : ∃ x, x = w2 := ⟨_, rfl⟩)) | (go_at_call 49; (first | (refine (s_l01In _ _ _ true (by assumption) _).mono ?_) | (refine (s_l01In _ _ _ false (by assumption) _).mono ?_) | (refine (s_l01In _ _ _ _ rfl _).mono ?_)); rintro e w2 ⟨rfl, rfl⟩) | (with_reducible refine wp_region_grew2 (by kernel_rfl) (by kernel_rfl) ?_; intro w2 hb; (first | have hn := nw4 hb hall (by exact zo) | have hn := nw3 hb hall (by exact zo) | have hn := nw2 hb hall (by exact zo) | have hn := nw1 hb hall (by exact zo) | have hn := nw0 hb hall (by exact zo)); obtain ⟨hc, hf, hn, hc0⟩ := hn; replace hall := hn; clear hn; have hz := hb.size; (try simp only [World.size_alloc, World.size_setCell, World.size_drew] at hz); have hx := hall; (try simp only [allLt, and_true] at hx); obtain ⟨w1, rfl⟩ : ∃ x, x = w2 := ⟨_, rfl⟩; (repeat (go_big_quiet_step (first | (go_at_call 49; first | exact calls_same (s_l01In _ _ _ true (by assumption) _) | exact calls_same (s_l01In _ _ _ false (by assumption) _) | exact calls_same (s_l01In _ _ _ _ rfl _))))); refine wpQuiet_nil ?_; intro w2 hw'; have hb := grew_below hw'; clear hw'; (first | have hn := nw4 hb hall (by exact zo) | have hn := nw3 hb hall (by exact zo) | have hn := nw2 hb hall (by exact zo) | have hn := nw1 hb hall (by exact zo) | have hn := nw0 hb hall (by exact zo)); obtain ⟨hc, hf, hn, hc0⟩ := hn; replace hall := hn; clear hn; have hz := hb.size; (try simp only [World.size_alloc, World.size_setCell, World.size_drew] at hz); have hx := hall; (try simp only [allLt, and_true] at hx); obtain ⟨w1, rfl⟩ : ∃ x, x = w2 := ⟨_, rfl⟩))
        go_ret
        have hB1 := HB1.out; have hB2 := HB2.out
        have hz := KI.out.box.lt; have hBg := KI.out.hB
        exact ⟨rfl, KIn.setMode KJ.out rfl HN.out mode, by exact bel, touch_cellT (HT1.out.trans (touch_of_below hB2 _)) (List.mem_cons_of_mem _ (mem_blocks.2 ⟨.slice (some ⟨ge, 0, none⟩) K.m.ents.length yec, by simp [KV.all, MV.all], rfl⟩))⟩
theorem s_l08Protect (B g : Nat) (y : KV) (K : Ker) (p mode : Int) (hc : 0 ≤ K.calls ∧ K.calls ≤ 100000) (w : World) (h : KIn B w g y K) : Calls Tryz.prog 112 #[.pointer (some ⟨g, 0, none⟩), .int .i64 p, .int .i64 mode] w fun e w' => e = .returned (.bool (protB K p mode)) ∧ KIn B w' g y (if protB K p mode then setEnt (countedK K) p ⟨mode, (pageEntry K.m.ents p).f⟩ else countedK K) ∧ Below B w w' :=
  (s_l08ProtectT B g y K p mode hc w h).mono fun e w' ⟨h1, h2, h3, _⟩ => ⟨h1, h2, h3⟩
end Go.Proofs.YtmblkllijjlkoaaGreat
