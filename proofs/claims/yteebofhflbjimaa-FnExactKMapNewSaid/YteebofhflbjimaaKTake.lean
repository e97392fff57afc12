/-
  The first free frame, and frames with it taken.
-/
import Derived.Test.YteebofhflbjimaaKStep
set_option linter.unusedVariables false
set_option linter.unusedSimpArgs false
namespace Go.Proofs.Yteebofhflbjimaa
open Go.RowKit
def takeF (F : Frm) : Frm := if 0 ≤ freeIx F.used then ⟨F.cells, F.used.set (freeIx F.used).toNat true⟩ else F
def NewTake (w : World) (F : Frm) (e : Ending) (w' : World) : Prop := ∃ y : FV, e = .returned (.tuple #[y.val, .int .i64 (freeIx F.used), .bool (decide (0 ≤ freeIx F.used))]) ∧ FOwn w.heap.size w' y (takeF F) ∧ Below w.heap.size w w'
section
variable {w : World} {B : Nat}
theorem KIn.setUsed {gb g n cap : Nat} {y : KV} {K : Ker} (h : KIn B w gb y K) (hu : y.m.f.u = .slice (some ⟨g, 0, none⟩) n cap) (i : Nat) (b : Bool) : KIn B (w.setCell ⟨g, i, none⟩ (.bool b)) gb y (withF K ⟨K.m.f.cells, K.m.f.used.set i b⟩) := by
  have S := FOwn.setUsed h.own.m.f hu i b
  exact KIn.setF (f' := y.m.f) h S.2 (fun b hb => sub_left [y.m.f.u] _ b hb) S.1 (fun b hb => .inl hb) rfl rfl
theorem KOwn.newF {B' g : Nat} {y : KV} {K : Ker} {z : FV} {F : Frm} (h : KOwn B w y K) (hz : FOwn B' w z F) (hB : B ≤ B') (hy : ∀ b ∈ blocks y.all, b < g) (hz' : ∀ b ∈ blocks z.all, g < b) : KOwn B w ⟨⟨z, y.m.e⟩, y.r⟩ (withF K F) ∧ g ∉ blocks (KV.mk ⟨z, y.m.e⟩ y.r).all := by
  refine ⟨KOwn.setF h (Touch.refl [] w) (by simp) (hz.mono hB) fun b hb => .inr fun hm => by have := hy b hm; have := hz' b hb; omega, fun hm => ?_⟩
  rw [show (KV.mk ⟨z, y.m.e⟩ y.r).all = [y.r] ++ ([y.m.e] ++ z.all) from rfl, blocks_append, blocks_append, List.mem_append, List.mem_append] at hm
  rcases hm with hm | hm | hm
  · have := hy g (sub_left [y.r] _ g hm); omega
  · have := hy g (sub_right [y.r] _ g (sub_left [y.m.e] _ g hm)); omega
  · have := hz' g hm; omega
theorem neUE {b n c b' n' c' : Nat} {y : KV} {K : Ker} (h : KOwn B w y K) (hu : y.m.f.u = .slice (some ⟨b, 0, none⟩) n c) (he : y.m.e = .slice (some ⟨b', 0, none⟩) n' c') : b ≠ b' ∧ b' ≠ b := by
  have : b' ≠ b := fun e => nodup_apart (l := [y.m.e]) h.m.nd b' (mem_one (Own.mem he)) (sub_left [y.m.f.u] _ b' (mem_one (by rw [e]; exact Own.mem hu)))
  exact ⟨this.symm, this⟩
end
theorem s_l05Free (c : Value) (v : Value) (us : List Bool) (w : World) (ha : BoolsAt w v us) : Calls Try.prog 119 #[.agg #[c, v]] w fun e w' => e = .returned (.int .i64 (freeIx us)) ∧ Below w.heap.size w w' := by
  obtain ⟨uo, uc, rfl, h1, h2, hur⟩ := BoolsAt.open ha
  have hm1 : us.length ≤ 9223372036854775807 := by unfold maxLen at h2; omega
  have HU := Lib.hid hur
  clear ha h1 h2 hur
  (have hall := all_nil w; go_enter Try.func119, Try.ntmps119)
  go_wp2
  go_loop [3] (fun i => ∃ k : Nat, k ≤ us.length ∧ i = .int .i64 k ∧ allTo (fun j => us.getD j false) k = true) (fun i => us.length - (intOf i).toNat)
  case atStart => exact ⟨0, Nat.zero_le _, rfl, rfl⟩
  case round =>
    obtain ⟨k, hk, rfl, hall2⟩ := hrel
    have HA := Lib.hid hall2; clear hall2
    by_cases hlt : k < us.length
    · have hlt' : (k : Int) < us.length := by omega
      obtain ⟨uk, huk⟩ := getx hlt
      obtain ⟨gu, ou, rfl, hgu, hcu⟩ := HU.out k uk huk
      have HK := Lib.hid huk
      clear huk
      cases uk
      · go_wp2
        go_ret
        exact ⟨ret_int (freeIx_at HA.out HK.out).symm, by exact bel⟩
      · go_wp2
        go_round
        case rel => exact ⟨k + 1, by omega, by go_num, by rw [allTo, HA.out, getD_of HK.out]; rfl⟩
        case measure => simp [intOf]; omega
    · have hlt' : ¬ (k : Int) < us.length := by omega
      obtain rfl : k = us.length := by omega
      go_wp2
      go_ret
      exact ⟨ret_int (freeIx_none HA.out).symm, by exact bel⟩

set_option maxRecDepth 20000 in
set_option maxHeartbeats 1600000 in
theorem i_FrameTake (x : FV) (F : Frm) (hok : framesOk F = true) (hs : szF F ≤ 1048576) (w : World) (ha : FAt w x F) : Calls Try.prog 90 #[x.val] w (NewTake w F) := by
  obtain ⟨c, u, vs⟩ := x
  obtain ⟨uo, uc, hu, h1, h2⟩ := ha.used.shape
  obtain ⟨co, cc, hc, h3, h4⟩ := RowsAt.shape ha.rows
  dsimp only at hu hc
  subst hu hc
  have HF := Lib.hid ha; have HOK := Lib.hid hok; have H1 := Lib.hid hs
  have hm1 : F.used.length ≤ 9223372036854775807 := by unfold maxLen at h2; omega
  simp only [FV.val]
  clear ha hok hs h1 h2 h3 h4
  (have hall := all_nil w; go_enter Try.func90, Try.ntmps90)
  go_wp2_with (first | (go_at_call 120; (refine (i_copyFrames ⟨.slice co F.cells.length cc, .slice uo F.used.length uc, vs⟩ F H1.out _ (HF.out.below (by exact bel))).mono ?_; rintro e w2 ⟨y, rfl, hyo, hb⟩; (obtain ⟨yco, ycc, yuo, yuc, yvs, rfl⟩ := FOwn.shapes hyo); have OK := Lib.hid hyo; have HB1 := Lib.hid hb; have kwa_0_0 : w2.cell? ⟨w.heap.size, 0, none⟩ = some (.slice co F.cells.length cc) := kc hb; have kwa_0_1 : w2.cell? ⟨w.heap.size, 1, none⟩ = some (.slice uo F.used.length uc) := kc hb; have kwa_1_0 : w2.cell? ⟨w.heap.size + 1, 0, none⟩ = some (.slice none 0 0) := kc hb; have fwa_1_0 : w2.frozen? ⟨w.heap.size + 1, 0, none⟩ = false := fc hb; have kwa_1_1 : w2.cell? ⟨w.heap.size + 1, 1, none⟩ = some (.slice none 0 0) := kc hb; have fwa_1_1 : w2.frozen? ⟨w.heap.size + 1, 1, none⟩ = false := fc hb; have xwa_0 : w.heap.size < w2.heap.size := xc hb; have xwa_1 : w.heap.size + 1 < w2.heap.size := xc hb; have hzwa := hb.size; (try simp only [World.size_alloc, World.size_setCell, World.size_drew] at hzwa); clear hyo; simp only [FV.val]; obtain ⟨wa, rfl⟩ : ∃ x, x = w2 := ⟨_, rfl⟩)) | (go_at_call 121; (refine (i_FramesOk ⟨.slice co F.cells.length cc, .slice uo F.used.length uc, vs⟩ F _ HOK.out _ (HF.out.below (by exact bel))).mono ?_; rintro e w2 ⟨rfl, hb⟩; have HB2 := Lib.hid hb; have kwb_0_0 : w2.cell? ⟨w.heap.size, 0, none⟩ = some (.slice co F.cells.length cc) := kc hb; have kwb_0_1 : w2.cell? ⟨w.heap.size, 1, none⟩ = some (.slice uo F.used.length uc) := kc hb; have kwb_1_0 : w2.cell? ⟨w.heap.size + 1, 0, none⟩ = some (.slice none 0 0) := kc hb; have fwb_1_0 : w2.frozen? ⟨w.heap.size + 1, 0, none⟩ = false := fc hb; have kwb_1_1 : w2.cell? ⟨w.heap.size + 1, 1, none⟩ = some (.slice none 0 0) := kc hb; have fwb_1_1 : w2.frozen? ⟨w.heap.size + 1, 1, none⟩ = false := fc hb; have kwb_O_0 : w2.cell? ⟨wa.heap.size, 0, none⟩ = some (.slice yco yvs.length ycc) := kc hb; have fwb_O_0 : w2.frozen? ⟨wa.heap.size, 0, none⟩ = false := fc hb; have kwb_O_1 : w2.cell? ⟨wa.heap.size, 1, none⟩ = some (.slice yuo F.used.length yuc) := kc hb; have fwb_O_1 : w2.frozen? ⟨wa.heap.size, 1, none⟩ = false := fc hb; have xwb_0 : w.heap.size < w2.heap.size := xc hb; have xwb_1 : w.heap.size + 1 < w2.heap.size := xc hb; have xwb_O : wa.heap.size < w2.heap.size := xc hb; have hzwb := hb.size; (try simp only [World.size_alloc, World.size_setCell, World.size_drew] at hzwb); obtain ⟨wb, rfl⟩ : ∃ x, x = w2 := ⟨_, rfl⟩)) | (with_reducible refine wp_region_grew2 (by kernel_rfl) (by kernel_rfl) ?_; intro w2 hb; (first | have hn := nw4 hb hall (by exact zo) | have hn := nw3 hb hall (by exact zo) | have hn := nw2 hb hall (by exact zo) | have hn := nw1 hb hall (by exact zo) | have hn := nw0 hb hall (by exact zo)); obtain ⟨hc, hf, hn, hc0⟩ := hn; replace hall := hn; clear hn; have hz := hb.size; (try simp only [World.size_alloc, World.size_setCell, World.size_drew] at hz); have hx := hall; (try simp only [allLt, and_true] at hx); (try (have hO := HO.out; replace HO := Lib.hid (Own.below hO (w' := w2) (by exact bel)); clear hO)); obtain ⟨w1, rfl⟩ : ∃ x, x = w2 := ⟨_, rfl⟩; (repeat (go_big_quiet_step (fail))); refine wpQuiet_nil ?_; intro w2 hw'; have hb := grew_below hw'; clear hw'; (first | have hn := nw4 hb hall (by exact zo) | have hn := nw3 hb hall (by exact zo) | have hn := nw2 hb hall (by exact zo) | have hn := nw1 hb hall (by exact zo) | have hn := nw0 hb hall (by exact zo)); obtain ⟨hc, hf, hn, hc0⟩ := hn; replace hall := hn; clear hn; have hz := hb.size; (try simp only [World.size_alloc, World.size_setCell, World.size_drew] at hz); have hx := hall; (try simp only [allLt, and_true] at hx); (try (have hO := HO.out; replace HO := Lib.hid (Own.below hO (w' := w2) (by exact bel)); clear hO)); obtain ⟨w1, rfl⟩ : ∃ x, x = w2 := ⟨_, rfl⟩))
  have hB1 := HB1.out; have hB2 := HB2.out
  have hU := HF.out.used.below (w' := wb) (by exact bel)
  obtain ⟨uo', uc', hue, _, _, hur⟩ := BoolsAt.open hU
  simp only [Value.slice.injEq] at hue
  obtain ⟨rfl, -, rfl⟩ := hue
  have HU := Lib.hid hur
  have OKB := FOwn.below (w' := wb) OK.out (by exact bel)
  have HO := Lib.hid OKB
  clear hU hur OKB hB1 hB2
  go_loop [15] (fun i => ∃ k : Nat, k ≤ F.used.length ∧ i = .int .i64 k ∧ allTo (fun j => F.used.getD j false) k = true) (fun i => F.used.length - (intOf i).toNat)
  case atStart => exact ⟨0, Nat.zero_le _, rfl, rfl⟩
  case round =>
    obtain ⟨k, hk, rfl, hall2⟩ := hrel
    have HA := Lib.hid hall2; clear hall2
    by_cases hlt : k < F.used.length
    · have hlt' : (k : Int) < F.used.length := by omega
      obtain ⟨uk, huk⟩ := getx hlt
      obtain ⟨gu, ou, rfl, hgu, hcu⟩ := HU.out k uk huk
      have HK := Lib.hid huk
      clear huk
      cases uk
      · obtain ⟨gy, gyc, hgy, -, -⟩ := Own.addr HO.out.used (show 0 < F.used.length by omega)
        simp only [Value.slice.injEq] at hgy
        obtain ⟨rfl, -, rfl⟩ := hgy
        obtain ⟨hBu, xu, eu, zu⟩ := OwnB.slotB HO.out.used HK.out
        have hgl : gy < wa.heap.size := (Own.lt OK.out.used gy rfl).2
        have hBu2 : w.heap.size + 1 + 1 ≤ gy := by simpa using hBu
        go_wp2
        skip
        have HE : Hid (freeIx F.used = k) := freeIx_at HA.out HK.out
        have HS := FOwn.setUsed HO.out rfl k true
        have HTK : Hid (takeF F = ⟨F.cells, F.used.set k true⟩) := by unfold Hid takeF; rw [HE.out, if_pos (by omega), Int.toNat_natCast]
        have hB1 := HB1.out; have hB2 := HB2.out
        (refine bodyPost_ret (v := .tuple #[.agg #[.slice yco yvs.length ycc, .slice (some ⟨gy, 0, none⟩) F.used.length yuc], .int .i64 k, .bool true]) (by simp [results, Try.results90, go_sem, kwb_1_0, fwb_1_0, kwb_1_1, fwb_1_1, xwb_1, kwb_O_0, kwb_O_1]) rfl ?_; refine ⟨⟨.slice yco yvs.length ycc, .slice (some ⟨gy, 0, none⟩) F.used.length yuc, yvs⟩, by (have hd : decide ((0 : Int) ≤ (k : Int)) = true := by simp); rw [HE.out, hd]; rfl, ?_, by exact bel⟩; rw [HTK.out]; have S1 := HS.1; (have hm := FOwn.mono (B' := w.heap.size + 1 + 1) (S1) (by exact zt); refine FOwn.mono (B := w.heap.size + 1 + 1) ?_ (by exact zt); (repeat (first | with_reducible exact hm | (with_reducible refine FOwn.offb ?_ (by omega) _) | (with_reducible refine FOwn.below ?_ ((Below.refl _ _).alloc (Nat.le_refl _) _)) | (with_reducible refine FOwn.below ?_ (Below.drew (Below.refl _ _))) | (refine FOwn.below ?_ (by with_reducible assumption))))))
      · go_wp2
        go_round
        case rel => exact ⟨k + 1, by omega, by go_num, by rw [allTo, HA.out, getD_of HK.out]; rfl⟩
        case measure => simp [intOf]; omega
    · have hlt' : ¬ (k : Int) < F.used.length := by omega
      obtain rfl : k = F.used.length := by omega
      go_wp2
      have HE : Hid (freeIx F.used = -1) := freeIx_none HA.out
      have HTK : Hid (takeF F = F) := by unfold Hid takeF; rw [HE.out, if_neg (by omega)]
      have hB1 := HB1.out; have hB2 := HB2.out
      (refine bodyPost_ret (v := .tuple #[.agg #[.slice yco yvs.length ycc, .slice yuo F.used.length yuc], .int .i64 (-1), .bool false]) (by simp [results, Try.results90, go_sem, kwb_1_0, fwb_1_0, kwb_1_1, fwb_1_1, xwb_1, kwb_O_0, kwb_O_1]) rfl ?_; refine ⟨⟨.slice yco yvs.length ycc, .slice yuo F.used.length yuc, yvs⟩, by rw [HE.out]; rfl, ?_, by exact bel⟩; rw [HTK.out]; have S1 := HO.out; (have hm := FOwn.mono (B' := w.heap.size + 1 + 1) (S1) (by exact zt); refine FOwn.mono (B := w.heap.size + 1 + 1) ?_ (by exact zt); (repeat (first | with_reducible exact hm | (with_reducible refine FOwn.offb ?_ (by omega) _) | (with_reducible refine FOwn.below ?_ ((Below.refl _ _).alloc (Nat.le_refl _) _)) | (with_reducible refine FOwn.below ?_ (Below.drew (Below.refl _ _))) | (refine FOwn.below ?_ (by with_reducible assumption))))))

end Go.Proofs.Yteebofhflbjimaa
