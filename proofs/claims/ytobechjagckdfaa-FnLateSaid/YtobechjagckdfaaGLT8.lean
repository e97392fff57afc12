/-
  Texts put together: KCopyF, KCopyK, Has, KCall, KProt, KCopyL, KBox.
-/
import Derived.Test.YtobechjagckdfaaGLT7
import Derived.Deep.RegionHeld3
import Derived.Deep.RegionLaw
import Derived.Test.YtobechjagckdfaaGLT5
/-
  Copies of frames.
-/
set_option linter.unusedVariables false
set_option linter.unusedSimpArgs false
namespace Go.Proofs.Ytobechjagckdfaa
open Go.RowKit
set_option maxRecDepth 20000 in
set_option maxHeartbeats 3200000 in
theorem i_copyFrames (x : FV) (F : Frm) (hs : szF F ≤ 1048576) (w : World) (ha : FAt w x F) : Calls Try.prog 75 #[x.val] w (NewF w F) := by
  obtain ⟨c, u, vs⟩ := x
  obtain ⟨uo, uc, hu, h1, h2⟩ := ha.used.shape
  obtain ⟨co, cc, hc, h3, h4⟩ := RowsAt.shape ha.rows
  dsimp only at hu hc
  subst hu hc
  have HR := Lib.hid ha.rows; have HU := Lib.hid ha.used
  dsimp only at HR HU
  simp only [FV.val]
  have hs1 : F.cells.length + tot F.cells ≤ 1048576 := by unfold szF at hs; omega
  have hs2 : F.used.length ≤ 1048576 := by unfold szF at hs; omega
  have hm : F.cells.length ≤ 1048576 := by omega
  have HX := Lib.hid hs1
  clear ha h1 h2 h3 h4 hs hs1
  (have hall := all_nil w; go_enter Try.func75, Try.ntmps75)
  go_wp2_with (first | (at_builtin; refine wpList_appendAll elemBool rfl _ _ rfl lenBool oneBool rfl (Own.empty' _ _ _ (w.heap.size + 1 + 1) _ _ (by simp) (by exact zt)) (by exact zt) rfl (HU.out.below (by exact bel)) (by simp only [List.length_nil, maxLen]; omega) ?_; intro v2 w2 hown2 hgr2 hat2 hb; (try simp only [List.nil_append] at hown2); obtain ⟨v2o, v2c, rfl, -, -⟩ := hown2.shape; have OU := Lib.hid hown2; have HBA := Lib.hid hb; clear hown2 hgr2 hat2; have kwa_0_0 : w2.cell? ⟨w.heap.size, 0, none⟩ = some (.slice co F.cells.length cc) := kc hb; obtain ⟨kwa_1_0, fwa_1_0, kwa_1_1, fwa_1_1⟩ := kf2 hb (w.heap.size + 1) (.slice none 0 0) (.slice none 0 0); have xwa_0 : w.heap.size < w2.heap.size := xc hb; have xwa_1 : w.heap.size + 1 < w2.heap.size := xc hb; have hzwa := hb.size; (try simp only [World.size_alloc, World.size_setCell, World.size_drew] at hzwa); obtain ⟨wa, rfl⟩ : ∃ x, x = w2 := ⟨_, rfl⟩))
  have HBA2 : Hid (Below w.heap.size w wa) := by (have hB := HBA.out; unfold Hid; exact bel)
  have HZ := HBA2.out.size
  clear hb
  go_loopw [14] (fun i wr => ∃ (k : Nat) (co' : Option Addr) (cc' : Nat) (us : List Value), k ≤ F.cells.length ∧ i = .int .i64 k ∧ us.length = k ∧ OwnR (wa.heap.size + 1) wr (.slice co' k cc') us (F.cells.take k) ∧ (blocks (.slice co' k cc' :: us)).Nodup ∧ Below wa.heap.size wa wr ∧ wr.cell? ⟨wa.heap.size, 0, none⟩ = some (.slice co' k cc') ∧ wr.frozen? ⟨wa.heap.size, 0, none⟩ = false ∧ wr.cell? ⟨wa.heap.size, 1, none⟩ = some (.slice v2o F.used.length v2c) ∧ wr.frozen? ⟨wa.heap.size, 1, none⟩ = false ∧ wa.heap.size < wr.heap.size) (fun i _ => F.cells.length - (intOf i).toNat)
  case atStart =>
    refine ⟨0, none, 0, [], Nat.zero_le _, rfl, rfl, ⟨Own.nil _ _ _ _ _, rfl, fun i v r hv => by simp at hv⟩, nodup_one _, ?_, ?_, ?_, ?_, ?_, ?_⟩
    · exact bel
    all_goals first | (go_simp; done) | exact zt
  case round =>
    obtain ⟨k, co', cc', us, hk, rfl, hul, hown, hnd, hbel, k0, f0, k1, f1, xo⟩ := hrel
    have HO := Lib.hid hown; have HD := Lib.hid hnd; have HBL := Lib.hid hbel; have HUL := Lib.hid hul
    have hB2 := HBA2.out.trans (hbel.mono HZ)
    have HB := Lib.hid hB2
    have kp := (hbel.cell (p := ⟨w.heap.size, 0, none⟩) xwa_0).trans kwa_0_0
    have kr0 := (hbel.cell (p := ⟨w.heap.size + 1, 0, none⟩) xwa_1).trans kwa_1_0
    have kr1 := (hbel.cell (p := ⟨w.heap.size + 1, 1, none⟩) xwa_1).trans kwa_1_1
    have fr0 := (hbel.frozen (p := ⟨w.heap.size + 1, 0, none⟩) xwa_1).trans fwa_1_0
    have fr1 := (hbel.frozen (p := ⟨w.heap.size + 1, 1, none⟩) xwa_1).trans fwa_1_1
    have xp : w.heap.size < wr.heap.size := by omega
    have xr : w.heap.size + 1 < wr.heap.size := by omega
    clear hown hnd hbel kwa_0_0 kwa_1_0 kwa_1_1 fwa_1_0 fwa_1_1
    by_cases hlt : k < F.cells.length
    · have hlt' : (k : Int) < F.cells.length := by omega
      obtain ⟨g, o, ro, rl, rc, r, cap, he, hg, hr, hrl, hvj, hcc, hrm, hat⟩ := rowAt HR.out hlt
      simp only [Value.slice.injEq] at he
      obtain ⟨rfl, -, rfl⟩ := he
      replace hcc := (hB2.cell (p := ⟨g, o + k, none⟩) hg).trans hcc
      have HAT := Lib.hid hat
      have HRR := Lib.hid hr
      have hr16 : r.length ≤ 1048576 := by
        have h1 := lensTo_succ hr
        have h2 := lensTo_mono F.cells (j := k + 1) (k := F.cells.length) (by omega)
        have h3 := HX.out
        unfold tot at h3
        omega
      have hus : us.length ≤ 1048576 := by omega
      subst hrl
      have hsz2 := hB2.size
      clear hr hvj hat hul kr0 kr1 fr0 fr1
      obtain ⟨w1, rfl⟩ : ∃ x, x = wr := ⟨_, rfl⟩
      have xg : g < w1.heap.size := by omega
      go_wp2
      go_region_law ((first | (((refine step_enter rfl 53 rfl #[.slice ro r.length rc] (by go_simp) (i_copyInts _ r hr16 _ (HAT.out.below (by exact bel))) ?_; intro e2 w2 hnew; obtain ⟨ao, cap, rfl, hownN, hb⟩ := hnew.open; clear hnew; have HN := Lib.hid hownN; have HBC := Lib.hid hb; clear hownN; obtain ⟨kwc_O_0, fwc_O_0, kwc_O_1, fwc_O_1⟩ := kf2 hb (wa.heap.size) (.slice co' k cc') (.slice v2o F.used.length v2c); have xwc_O : wa.heap.size < w2.heap.size := xc hb; have hzwc := hb.size; (try simp only [World.size_alloc, World.size_setCell, World.size_drew] at hzwc); obtain ⟨wc, rfl⟩ : ∃ x, x = w2 := ⟨_, rfl⟩; refine ⟨_, rfl, ?_⟩))) | (((refine step_append1 elemRow rfl _ _ rfl lenVal (by rfl) (xs := us) (v := .slice co' k cc') (B := wa.heap.size + 1) (by exact Own.below HO.out.out (by exact bel)) (by exact zt) (by rfl) (.slice ao r.length cap) (fun u hu => (by simp [fVal] at hu; subst hu; rfl)) (by intro j u hj; match j, hj with | 0, hj => (simp [fVal] at hj; subst hj; go_simp) | j + 1, hj => simp [fVal] at hj) (by simp only [maxLen]; omega) ?_; intro v3 w2 hown3 hgr3 hat3 hb; obtain ⟨v3o, v3c, hv3, -, -⟩ := hown3.shape; rw [List.length_append, List.length_singleton, HUL.out] at hv3; subst hv3; have H3 := Lib.hid hown3; have HG3 := Lib.hid hgr3; have HA3 := Lib.hid hat3; have HB3 := Lib.hid hb; clear hown3 hgr3 hat3; obtain ⟨kwd_O_0, fwd_O_0, kwd_O_1, fwd_O_1⟩ := kf2 hb (wa.heap.size) (.slice co' k cc') (.slice v2o F.used.length v2c); have xwd_O : wa.heap.size < w2.heap.size := xc hb; have hzwd := hb.size; (try simp only [World.size_alloc, World.size_setCell, World.size_drew] at hzwd); obtain ⟨wd, rfl⟩ : ∃ x, x = w2 := ⟨_, rfl⟩)))))
      all_goals
        go_wp2
        go_roundw
        case rel =>
          clear hB2
          have hB3 := HB3.out; have hBC := HBC.out; have hBL := HBL.out
          have hcz := hBC.size
          (try simp only [World.size_alloc, World.size_setCell, World.size_drew] at hcz)
          have hfr : ∀ g', (Value.slice ao r.length cap).ownBlock = some g' → g' ∉ blocks (.slice co' k cc' :: us) := fun g' hg' hm' => by
            have h1 := (HN.out.lt g' hg').1
            have h2 := (HO.out.lt g' hm').2
            (try simp only [World.size_alloc, World.size_setCell, World.size_drew] at h1)
            omega
          have ND := nodup_grow HD.out hfr HA3.out (fun g' hg' => by
            rw [blocks_append, List.mem_append] at hg'
            rcases hg' with h5 | h5
            · have h2 := (HO.out.lt g' (blocks_sub (fun v hv => List.mem_cons_of_mem _ hv) g' h5)).2
              (try simp only [World.size_alloc, World.size_setCell, World.size_drew])
              omega
            · have h2 := (Own.lts HN.out g' h5).2
              (try simp only [World.size_alloc, World.size_setCell, World.size_drew])
              omega)
          have S := OwnRows.snoc (E := 3) (f := fInt) (rows := F.cells.take k) (r := r) (by exact OwnRows.below HO.out (by exact bel)) HD.out H3.out HG3.out (Own.grownNe (by exact Own.mono (B' := wa.heap.size + 1) (Own.below HN.out (by exact bel)) (by exact zt)) HG3.out (fun g' hg' e => hfr g' hg' (mem_blocks.2 ⟨_, List.mem_cons_self, e.symm⟩)))
          rw [← take_snoc HRR.out] at S
          exact ⟨k + 1, v3o, v3c, us ++ [.slice ao r.length cap], by omega, by go_num, by simp [HUL.out], OwnRows.offb S (by omega) _, ND, by exact bel, by go_simp, by go_simp, by go_simp, by go_simp, by go_simp⟩
        case measure => simp [intOf]; omega
    · have hlt' : ¬ (k : Int) < F.cells.length := by omega
      obtain rfl : k = F.cells.length := by omega
      clear hB2
      go_wp2
      refine bodyPost_ret (v := .agg #[.slice co' F.cells.length cc', .slice v2o F.used.length v2c]) (by simp [results, Try.results75, go_sem, k0, k1, f0, f1, kr0, kr1, fr0, fr1]) rfl ?_
      have OUR : OwnB (w.heap.size + 1 + 1) wr (.slice v2o F.used.length v2c) F.used := Own.belowB OU.out HBL.out fun g hg => (OU.out.lt g hg).2
      have hO := HO.out
      rw [List.take_of_length_le (Nat.le_refl _)] at hO
      have hB := HB.out
      refine ⟨⟨_, _, us⟩, rfl, ⟨by (have hm := OwnRows.mono (B' := wa.heap.size + 1) (hO) (by exact zt); refine OwnRows.mono (B := wa.heap.size + 1) ?_ (by exact zt); (repeat (first | with_reducible exact hm | (with_reducible refine OwnRows.offb ?_ (by omega) _) | (with_reducible refine OwnRows.below ?_ ((Below.refl _ _).alloc (Nat.le_refl _) _)) | (with_reducible refine OwnRows.below ?_ (Below.drew (Below.refl _ _))) | (refine OwnRows.below ?_ (by with_reducible assumption))))), by (have hm := Own.mono (B' := w.heap.size + 1 + 1) (OUR) (by exact zt); refine Own.mono (B := w.heap.size + 1 + 1) ?_ (by exact zt); (repeat (first | with_reducible exact hm | (with_reducible refine Own.offb ?_ (by omega) _) | (with_reducible refine Own.below ?_ ((Below.refl _ _).alloc (Nat.le_refl _) _)) | (with_reducible refine Own.below ?_ (Below.drew (Below.refl _ _))) | (refine Own.below ?_ (by with_reducible assumption))))), ?_⟩, by exact bel⟩
      exact nodup_blocks (l := [_]) (nodup_one _) HD.out (fun g hg hm => by have h1 := (Own.lts OU.out g hg).2; have h2 := (HO.out.lt g hm).1; omega)

set_option maxRecDepth 20000 in
set_option maxHeartbeats 3200000 in
theorem s_l05Copy (x : FV) (F : Frm) (hs : szF F ≤ 1048576) (w : World) (ha : FAt w x F) : Calls Try.prog 84 #[x.val] w (NewF w F) := by
  obtain ⟨c, u, vs⟩ := x
  obtain ⟨uo, uc, hu, h1, h2⟩ := ha.used.shape
  obtain ⟨co, cc, hc, h3, h4⟩ := RowsAt.shape ha.rows
  dsimp only at hu hc
  subst hu hc
  have HR := Lib.hid ha.rows; have HU := Lib.hid ha.used
  dsimp only at HR HU
  simp only [FV.val]
  have hs1 : F.cells.length + tot F.cells ≤ 1048576 := by unfold szF at hs; omega
  have hs2 : F.used.length ≤ 1048576 := by unfold szF at hs; omega
  have hm : F.cells.length ≤ 1048576 := by omega
  have HX := Lib.hid hs1
  clear ha h1 h2 h3 h4 hs hs1
  (have hall := all_nil w; go_enter Try.func84, Try.ntmps84)
  go_wp2_with (first | (at_builtin; refine wpList_appendAll elemBool rfl _ _ rfl lenBool oneBool rfl (Own.empty' _ _ _ (w.heap.size + 1 + 1) _ _ (by simp) (by exact zt)) (by exact zt) rfl (HU.out.below (by exact bel)) (by simp only [List.length_nil, maxLen]; omega) ?_; intro v2 w2 hown2 hgr2 hat2 hb; (try simp only [List.nil_append] at hown2); obtain ⟨v2o, v2c, rfl, -, -⟩ := hown2.shape; have OU := Lib.hid hown2; have HBA := Lib.hid hb; clear hown2 hgr2 hat2; have kwa_0_0 : w2.cell? ⟨w.heap.size, 0, none⟩ = some (.slice co F.cells.length cc) := kc hb; obtain ⟨kwa_1_0, fwa_1_0, kwa_1_1, fwa_1_1⟩ := kf2 hb (w.heap.size + 1) (.slice none 0 0) (.slice none 0 0); have xwa_0 : w.heap.size < w2.heap.size := xc hb; have xwa_1 : w.heap.size + 1 < w2.heap.size := xc hb; have hzwa := hb.size; (try simp only [World.size_alloc, World.size_setCell, World.size_drew] at hzwa); obtain ⟨wa, rfl⟩ : ∃ x, x = w2 := ⟨_, rfl⟩))
  have HBA2 : Hid (Below w.heap.size w wa) := by (have hB := HBA.out; unfold Hid; exact bel)
  have HZ := HBA2.out.size
  clear hb
  go_loopw [4] (fun i wr => ∃ (k : Nat) (co' : Option Addr) (cc' : Nat) (us : List Value), k ≤ F.cells.length ∧ i = .int .i64 k ∧ us.length = k ∧ OwnR (wa.heap.size + 1) wr (.slice co' k cc') us (F.cells.take k) ∧ (blocks (.slice co' k cc' :: us)).Nodup ∧ Below wa.heap.size wa wr ∧ wr.cell? ⟨wa.heap.size, 0, none⟩ = some (.slice co' k cc') ∧ wr.frozen? ⟨wa.heap.size, 0, none⟩ = false ∧ wr.cell? ⟨wa.heap.size, 1, none⟩ = some (.slice v2o F.used.length v2c) ∧ wr.frozen? ⟨wa.heap.size, 1, none⟩ = false ∧ wa.heap.size < wr.heap.size) (fun i _ => F.cells.length - (intOf i).toNat)
  case atStart =>
    refine ⟨0, none, 0, [], Nat.zero_le _, rfl, rfl, ⟨Own.nil _ _ _ _ _, rfl, fun i v r hv => by simp at hv⟩, nodup_one _, ?_, ?_, ?_, ?_, ?_, ?_⟩
    · exact bel
    all_goals first | (go_simp; done) | exact zt
  case round =>
    obtain ⟨k, co', cc', us, hk, rfl, hul, hown, hnd, hbel, k0, f0, k1, f1, xo⟩ := hrel
    have HO := Lib.hid hown; have HD := Lib.hid hnd; have HBL := Lib.hid hbel; have HUL := Lib.hid hul
    have hB2 := HBA2.out.trans (hbel.mono HZ)
    have HB := Lib.hid hB2
    have kp := (hbel.cell (p := ⟨w.heap.size, 0, none⟩) xwa_0).trans kwa_0_0
    have kr0 := (hbel.cell (p := ⟨w.heap.size + 1, 0, none⟩) xwa_1).trans kwa_1_0
    have kr1 := (hbel.cell (p := ⟨w.heap.size + 1, 1, none⟩) xwa_1).trans kwa_1_1
    have fr0 := (hbel.frozen (p := ⟨w.heap.size + 1, 0, none⟩) xwa_1).trans fwa_1_0
    have fr1 := (hbel.frozen (p := ⟨w.heap.size + 1, 1, none⟩) xwa_1).trans fwa_1_1
    have xp : w.heap.size < wr.heap.size := by omega
    have xr : w.heap.size + 1 < wr.heap.size := by omega
    clear hown hnd hbel kwa_0_0 kwa_1_0 kwa_1_1 fwa_1_0 fwa_1_1
    by_cases hlt : k < F.cells.length
    · have hlt' : (k : Int) < F.cells.length := by omega
      obtain ⟨g, o, ro, rl, rc, r, cap, he, hg, hr, hrl, hvj, hcc, hrm, hat⟩ := rowAt HR.out hlt
      simp only [Value.slice.injEq] at he
      obtain ⟨rfl, -, rfl⟩ := he
      replace hcc := (hB2.cell (p := ⟨g, o + k, none⟩) hg).trans hcc
      have HAT := Lib.hid hat
      have HRR := Lib.hid hr
      have hr16 : r.length ≤ 1048576 := by
        have h1 := lensTo_succ hr
        have h2 := lensTo_mono F.cells (j := k + 1) (k := F.cells.length) (by omega)
        have h3 := HX.out
        unfold tot at h3
        omega
      have hus : us.length ≤ 1048576 := by omega
      subst hrl
      have hsz2 := hB2.size
      clear hr hvj hat hul kr0 kr1 fr0 fr1
      obtain ⟨w1, rfl⟩ : ∃ x, x = wr := ⟨_, rfl⟩
      have xg : g < w1.heap.size := by omega
      go_wp2
      go_region_law ((first | ((refine step_appendAll elemInt rfl _ _ rfl lenInt oneInt rfl (xs := []) (B := w1.heap.size) (Own.empty' _ _ _ (w1.heap.size) _ _ (by simp) (by exact zt)) (by exact zt) rfl (HAT.out.below (by exact bel)) (by simp only [List.length_nil, maxLen]; omega) ?_; intro v4 w2 hown4 hgr4 hat4 hb; (try simp only [List.nil_append] at hown4); obtain ⟨ao, cap, rfl, -, -⟩ := hown4.shape; have HN := Lib.hid hown4; have HBC := Lib.hid hb; have HA4 := Lib.hid hat4; clear hown4 hgr4 hat4; obtain ⟨kwc_O_0, fwc_O_0, kwc_O_1, fwc_O_1⟩ := kf2 hb (wa.heap.size) (.slice co' k cc') (.slice v2o F.used.length v2c); have kwc_P_0 : w2.cell? ⟨w.heap.size, 0, none⟩ = some (.slice (some ⟨g, o, none⟩) F.cells.length cc) := kc hb; have kwc_G : w2.cell? ⟨g, o + k, none⟩ = some (.slice ro r.length rc) := kc hb; have xwc_O : wa.heap.size < w2.heap.size := xc hb; have xwc_P : w.heap.size < w2.heap.size := xc hb; have xwc_G : g < w2.heap.size := xc hb; have hzwc := hb.size; (try simp only [World.size_alloc, World.size_setCell, World.size_drew] at hzwc); obtain ⟨wc, rfl⟩ : ∃ x, x = w2 := ⟨_, rfl⟩)) | (((refine step_append1 elemRow rfl _ _ rfl lenVal (by rfl) (xs := us) (v := .slice co' k cc') (B := wa.heap.size + 1) (by exact Own.below HO.out.out (by exact bel)) (by exact zt) (by rfl) (.slice ao r.length cap) (fun u hu => (by simp [fVal] at hu; subst hu; rfl)) (by intro j u hj; match j, hj with | 0, hj => (simp [fVal] at hj; subst hj; go_simp) | j + 1, hj => simp [fVal] at hj) (by simp only [maxLen]; omega) ?_; intro v3 w2 hown3 hgr3 hat3 hb; obtain ⟨v3o, v3c, hv3, -, -⟩ := hown3.shape; rw [List.length_append, List.length_singleton, HUL.out] at hv3; subst hv3; have H3 := Lib.hid hown3; have HG3 := Lib.hid hgr3; have HA3 := Lib.hid hat3; have HB3 := Lib.hid hb; clear hown3 hgr3 hat3; obtain ⟨kwd_O_0, fwd_O_0, kwd_O_1, fwd_O_1⟩ := kf2 hb (wa.heap.size) (.slice co' k cc') (.slice v2o F.used.length v2c); have kwd_P_0 : w2.cell? ⟨w.heap.size, 0, none⟩ = some (.slice (some ⟨g, o, none⟩) F.cells.length cc) := kc hb; have kwd_G : w2.cell? ⟨g, o + k, none⟩ = some (.slice ro r.length rc) := kc hb; have xwd_O : wa.heap.size < w2.heap.size := xc hb; have xwd_P : w.heap.size < w2.heap.size := xc hb; have xwd_G : g < w2.heap.size := xc hb; have hzwd := hb.size; (try simp only [World.size_alloc, World.size_setCell, World.size_drew] at hzwd); obtain ⟨wd, rfl⟩ : ∃ x, x = w2 := ⟨_, rfl⟩)))))
      all_goals
        go_wp2
        go_roundw
        case rel =>
          clear hB2
          have hB3 := HB3.out; have hBC := HBC.out; have hBL := HBL.out
          have hcz := hBC.size
          (try simp only [World.size_alloc, World.size_setCell, World.size_drew] at hcz)
          have hfr : ∀ g', (Value.slice ao r.length cap).ownBlock = some g' → g' ∉ blocks (.slice co' k cc' :: us) := fun g' hg' hm' => by
            have h1 := (HN.out.lt g' hg').1
            have h2 := (HO.out.lt g' hm').2
            (try simp only [World.size_alloc, World.size_setCell, World.size_drew] at h1)
            omega
          have ND := nodup_grow HD.out hfr HA3.out (fun g' hg' => by
            rw [blocks_append, List.mem_append] at hg'
            rcases hg' with h5 | h5
            · have h2 := (HO.out.lt g' (blocks_sub (fun v hv => List.mem_cons_of_mem _ hv) g' h5)).2
              (try simp only [World.size_alloc, World.size_setCell, World.size_drew])
              omega
            · have h2 := (Own.lts HN.out g' h5).2
              (try simp only [World.size_alloc, World.size_setCell, World.size_drew])
              omega)
          have S := OwnRows.snoc (E := 3) (f := fInt) (rows := F.cells.take k) (r := r) (by exact OwnRows.below HO.out (by exact bel)) HD.out H3.out HG3.out (Own.grownNe (by exact Own.mono (B' := wa.heap.size + 1) (Own.below HN.out (by exact bel)) (by exact zt)) HG3.out (fun g' hg' e => hfr g' hg' (mem_blocks.2 ⟨_, List.mem_cons_self, e.symm⟩)))
          rw [← take_snoc HRR.out] at S
          exact ⟨k + 1, v3o, v3c, us ++ [.slice ao r.length cap], by omega, by go_num, by simp [HUL.out], OwnRows.offb S (by omega) _, ND, by exact bel, by go_simp, by go_simp, by go_simp, by go_simp, by go_simp⟩
        case measure => simp [intOf]; omega
    · have hlt' : ¬ (k : Int) < F.cells.length := by omega
      obtain rfl : k = F.cells.length := by omega
      clear hB2
      go_wp2
      refine bodyPost_ret (v := .agg #[.slice co' F.cells.length cc', .slice v2o F.used.length v2c]) (by simp [results, Try.results84, go_sem, k0, k1, f0, f1, kr0, kr1, fr0, fr1]) rfl ?_
      have OUR : OwnB (w.heap.size + 1 + 1) wr (.slice v2o F.used.length v2c) F.used := Own.belowB OU.out HBL.out fun g hg => (OU.out.lt g hg).2
      have hO := HO.out
      rw [List.take_of_length_le (Nat.le_refl _)] at hO
      have hB := HB.out
      refine ⟨⟨_, _, us⟩, rfl, ⟨by (have hm := OwnRows.mono (B' := wa.heap.size + 1) (hO) (by exact zt); refine OwnRows.mono (B := wa.heap.size + 1) ?_ (by exact zt); (repeat (first | with_reducible exact hm | (with_reducible refine OwnRows.offb ?_ (by omega) _) | (with_reducible refine OwnRows.below ?_ ((Below.refl _ _).alloc (Nat.le_refl _) _)) | (with_reducible refine OwnRows.below ?_ (Below.drew (Below.refl _ _))) | (refine OwnRows.below ?_ (by with_reducible assumption))))), by (have hm := Own.mono (B' := w.heap.size + 1 + 1) (OUR) (by exact zt); refine Own.mono (B := w.heap.size + 1 + 1) ?_ (by exact zt); (repeat (first | with_reducible exact hm | (with_reducible refine Own.offb ?_ (by omega) _) | (with_reducible refine Own.below ?_ ((Below.refl _ _).alloc (Nat.le_refl _) _)) | (with_reducible refine Own.below ?_ (Below.drew (Below.refl _ _))) | (refine Own.below ?_ (by with_reducible assumption))))), ?_⟩, by exact bel⟩
      exact nodup_blocks (l := [_]) (nodup_one _) HD.out (fun g hg hm => by have h1 := (Own.lts OU.out g hg).2; have h2 := (HO.out.lt g hm).1; omega)

end Go.Proofs.Ytobechjagckdfaa
/-
  Copies of machines and kernels.
-/
set_option linter.unusedVariables false
set_option linter.unusedSimpArgs false
namespace Go.Proofs.Ytobechjagckdfaa
open Go.RowKit
set_option maxRecDepth 20000 in
set_option maxHeartbeats 1600000 in
theorem i_copyMachine (x : MV) (M : Mac) (hs : szM M ≤ 1048576) (w : World) (ha : MAt w x M) : Calls Try.prog 52 #[x.val] w (NewM w M) := by
  obtain ⟨f, e⟩ := x
  have HF := Lib.hid ha.f; have HE := Lib.hid ha.ents
  dsimp only at HF HE
  simp only [MV.val]
  have hs1 : szF M.f ≤ 1048576 := by unfold szM at hs; omega
  have hs2 : M.ents.length ≤ 1048576 := by unfold szM at hs; omega
  have H1 := Lib.hid hs1; have H2 := Lib.hid hs2
  clear ha hs hs1 hs2
  (have hall := all_nil w; go_enter Try.func52, Try.ntmps52)
  go_wp2
  go_region_held3 (fun w' => w'.cell? ⟨w.heap.size, 0, none⟩ = some (f.c) ∧ w'.cell? ⟨w.heap.size, 1, none⟩ = some (f.u) ∧ w'.cell? ⟨w.heap.size, 2, none⟩ = some (e)) (first | (refine ⟨?_, ?_, ?_⟩ <;> (go_simp; done)) | go_keep) (first | (go_at_call 75; (refine (i_copyFrames f M.f H1.out _ (HF.out.below (by exact bel))).mono ?_; rintro e w2 ⟨y, rfl, hyo, hb⟩; (obtain ⟨yco, ycc, yuo, yuc, yvs, rfl⟩ := FOwn.shapes hyo); have OF := Lib.hid hyo; have HB1 := Lib.hid hb; obtain ⟨kwa_0_0, kwa_0_1, kwa_0_2⟩ := kp3 hb (w.heap.size) (f.c) (f.u) (e); obtain ⟨kwa_1_0, fwa_1_0, kwa_1_1, fwa_1_1, kwa_1_2, fwa_1_2⟩ := kf3 hb (w.heap.size + 1) (.slice none 0 0) (.slice none 0 0) (.slice none 0 0); have xwa_0 : w.heap.size < w2.heap.size := xc hb; have xwa_1 : w.heap.size + 1 < w2.heap.size := xc hb; have hzwa := hb.size; (try simp only [World.size_alloc, World.size_setCell, World.size_drew] at hzwa); clear hyo; simp only [FV.val]; obtain ⟨wa, rfl⟩ : ∃ x, x = w2 := ⟨_, rfl⟩)) | (go_at_call 76; (refine (i_copyTable _ M.ents H2.out _ (HE.out.below (by exact bel))).mono ?_; rintro e w2 ⟨e', rfl, heo, hb⟩; obtain ⟨eo, ec, rfl, -, -⟩ := heo.shape; have OE := Lib.hid heo; have HB2 := Lib.hid hb; obtain ⟨kwb_0_0, kwb_0_1, kwb_0_2⟩ := kp3 hb (w.heap.size) (f.c) (f.u) (e); obtain ⟨kwb_1_0, fwb_1_0, kwb_1_1, fwb_1_1, kwb_1_2, fwb_1_2⟩ := kf3 hb (w.heap.size + 1) (.slice none 0 0) (.slice none 0 0) (.slice none 0 0); have xwb_0 : w.heap.size < w2.heap.size := xc hb; have xwb_1 : w.heap.size + 1 < w2.heap.size := xc hb; have hzwb := hb.size; (try simp only [World.size_alloc, World.size_setCell, World.size_drew] at hzwb); clear heo; obtain ⟨wb, rfl⟩ : ∃ x, x = w2 := ⟨_, rfl⟩)))
  all_goals go_wp2
  skip
  refine bodyPost_ret (v := .agg #[.slice yco yvs.length ycc, .slice yuo M.f.used.length yuc, .slice eo M.ents.length ec]) (by simp [results, Try.results52, go_sem, kwb_1_0, fwb_1_0, kwb_1_1, fwb_1_1, kwb_1_2, fwb_1_2, xwb_1]) rfl ?_
  have hB1 := HB1.out; have hB2 := HB2.out
  refine ⟨⟨⟨_, _, yvs⟩, _⟩, rfl, ⟨by (have hm := FOwn.mono (B' := w.heap.size + 1 + 1) (OF.out) (by exact zt); refine FOwn.mono (B := w.heap.size + 1 + 1) ?_ (by exact zt); (repeat (first | with_reducible exact hm | (with_reducible refine FOwn.offb ?_ (by omega) _) | (with_reducible refine FOwn.below ?_ ((Below.refl _ _).alloc (Nat.le_refl _) _)) | (with_reducible refine FOwn.below ?_ (Below.drew (Below.refl _ _))) | (refine FOwn.below ?_ (by with_reducible assumption))))), by (have hm := Own.mono (B' := w.heap.size + 1 + 1) (OE.out) (by exact zt); refine Own.mono (B := w.heap.size + 1 + 1) ?_ (by exact zt); (repeat (first | with_reducible exact hm | (with_reducible refine Own.offb ?_ (by omega) _) | (with_reducible refine Own.below ?_ ((Below.refl _ _).alloc (Nat.le_refl _) _)) | (with_reducible refine Own.below ?_ (Below.drew (Below.refl _ _))) | (refine Own.below ?_ (by with_reducible assumption))))), ?_⟩, by exact bel⟩
  exact nodup_blocks (l := [_]) (nodup_one _) OF.out.nd (fun g hg hm => by have h1 := (Own.lts OE.out) g hg; have h2 := (OF.out.lts) g hm; simp only [World.size_alloc, World.size_setCell, World.size_drew] at h1 h2; omega)

set_option maxRecDepth 20000 in
set_option maxHeartbeats 1600000 in
theorem s_l07Copy (x : MV) (M : Mac) (hs : szM M ≤ 1048576) (w : World) (ha : MAt w x M) : Calls Try.prog 74 #[x.val] w (NewM w M) := by
  obtain ⟨f, e⟩ := x
  have HF := Lib.hid ha.f; have HE := Lib.hid ha.ents
  dsimp only at HF HE
  simp only [MV.val]
  have hs1 : szF M.f ≤ 1048576 := by unfold szM at hs; omega
  have hs2 : M.ents.length ≤ 1048576 := by unfold szM at hs; omega
  have H1 := Lib.hid hs1; have H2 := Lib.hid hs2
  clear ha hs hs1 hs2
  (have hall := all_nil w; go_enter Try.func74, Try.ntmps74)
  go_wp2
  go_region_held3 (fun w' => w'.cell? ⟨w.heap.size, 0, none⟩ = some (f.c) ∧ w'.cell? ⟨w.heap.size, 1, none⟩ = some (f.u) ∧ w'.cell? ⟨w.heap.size, 2, none⟩ = some (e)) (first | (refine ⟨?_, ?_, ?_⟩ <;> (go_simp; done)) | go_keep) (first | (go_at_call 84; (refine (s_l05Copy f M.f H1.out _ (HF.out.below (by exact bel))).mono ?_; rintro e w2 ⟨y, rfl, hyo, hb⟩; (obtain ⟨yco, ycc, yuo, yuc, yvs, rfl⟩ := FOwn.shapes hyo); have OF := Lib.hid hyo; have HB1 := Lib.hid hb; obtain ⟨kwa_0_0, kwa_0_1, kwa_0_2⟩ := kp3 hb (w.heap.size) (f.c) (f.u) (e); obtain ⟨kwa_1_0, fwa_1_0, kwa_1_1, fwa_1_1, kwa_1_2, fwa_1_2⟩ := kf3 hb (w.heap.size + 1) (.slice none 0 0) (.slice none 0 0) (.slice none 0 0); have xwa_0 : w.heap.size < w2.heap.size := xc hb; have xwa_1 : w.heap.size + 1 < w2.heap.size := xc hb; have hzwa := hb.size; (try simp only [World.size_alloc, World.size_setCell, World.size_drew] at hzwa); clear hyo; simp only [FV.val]; obtain ⟨wa, rfl⟩ : ∃ x, x = w2 := ⟨_, rfl⟩)) | (go_at_call 27; (refine (s_l06Copy _ M.ents H2.out _ (HE.out.below (by exact bel))).mono ?_; rintro e w2 ⟨e', rfl, heo, hb⟩; obtain ⟨eo, ec, rfl, -, -⟩ := heo.shape; have OE := Lib.hid heo; have HB2 := Lib.hid hb; obtain ⟨kwb_0_0, kwb_0_1, kwb_0_2⟩ := kp3 hb (w.heap.size) (f.c) (f.u) (e); obtain ⟨kwb_1_0, fwb_1_0, kwb_1_1, fwb_1_1, kwb_1_2, fwb_1_2⟩ := kf3 hb (w.heap.size + 1) (.slice none 0 0) (.slice none 0 0) (.slice none 0 0); have xwb_0 : w.heap.size < w2.heap.size := xc hb; have xwb_1 : w.heap.size + 1 < w2.heap.size := xc hb; have hzwb := hb.size; (try simp only [World.size_alloc, World.size_setCell, World.size_drew] at hzwb); clear heo; obtain ⟨wb, rfl⟩ : ∃ x, x = w2 := ⟨_, rfl⟩)))
  all_goals go_wp2
  skip
  refine bodyPost_ret (v := .agg #[.slice yco yvs.length ycc, .slice yuo M.f.used.length yuc, .slice eo M.ents.length ec]) (by simp [results, Try.results74, go_sem, kwb_1_0, fwb_1_0, kwb_1_1, fwb_1_1, kwb_1_2, fwb_1_2, xwb_1]) rfl ?_
  have hB1 := HB1.out; have hB2 := HB2.out
  refine ⟨⟨⟨_, _, yvs⟩, _⟩, rfl, ⟨by (have hm := FOwn.mono (B' := w.heap.size + 1 + 1) (OF.out) (by exact zt); refine FOwn.mono (B := w.heap.size + 1 + 1) ?_ (by exact zt); (repeat (first | with_reducible exact hm | (with_reducible refine FOwn.offb ?_ (by omega) _) | (with_reducible refine FOwn.below ?_ ((Below.refl _ _).alloc (Nat.le_refl _) _)) | (with_reducible refine FOwn.below ?_ (Below.drew (Below.refl _ _))) | (refine FOwn.below ?_ (by with_reducible assumption))))), by (have hm := Own.mono (B' := w.heap.size + 1 + 1) (OE.out) (by exact zt); refine Own.mono (B := w.heap.size + 1 + 1) ?_ (by exact zt); (repeat (first | with_reducible exact hm | (with_reducible refine Own.offb ?_ (by omega) _) | (with_reducible refine Own.below ?_ ((Below.refl _ _).alloc (Nat.le_refl _) _)) | (with_reducible refine Own.below ?_ (Below.drew (Below.refl _ _))) | (refine Own.below ?_ (by with_reducible assumption))))), ?_⟩, by exact bel⟩
  exact nodup_blocks (l := [_]) (nodup_one _) OF.out.nd (fun g hg hm => by have h1 := (Own.lts OE.out) g hg; have h2 := (OF.out.lts) g hm; simp only [World.size_alloc, World.size_setCell, World.size_drew] at h1 h2; omega)

set_option maxRecDepth 20000 in
set_option maxHeartbeats 1600000 in
theorem i_copyKernel (x : KV) (K : Ker) (hs : szK K ≤ 1048576) (w : World) (ha : KAt w x K) : Calls Try.prog 25 #[x.val K.calls] w (NewK w K) := by
  obtain ⟨m, r⟩ := x
  obtain ⟨rvo, rvc, hr, _, _⟩ := ha.ref.shape
  dsimp only at hr
  subst hr
  have HM := Lib.hid ha.m; have HR := Lib.hid ha.ref
  dsimp only at HM HR
  simp only [KV.val]
  have hs1 : szM K.m ≤ 1048576 := by unfold szK at hs; omega
  have hs2 : K.refuse.length ≤ 1048576 := by unfold szK at hs; omega
  have H1 := Lib.hid hs1; have H2 := Lib.hid hs2
  clear ha hs hs1
  (have hall := all_nil w; go_enter Try.func25, Try.ntmps25)
  go_wp2
  go_region_held3 (fun w' => w'.cell? ⟨w.heap.size, 0, none⟩ = some (m.f.c) ∧ w'.cell? ⟨w.heap.size, 1, none⟩ = some (m.f.u) ∧ w'.cell? ⟨w.heap.size, 2, none⟩ = some (m.e) ∧ w'.cell? ⟨w.heap.size, 3, none⟩ = some (.int .i64 K.calls) ∧ w'.cell? ⟨w.heap.size, 4, none⟩ = some (.slice rvo K.refuse.length rvc)) (first | (refine ⟨?_, ?_, ?_, ?_, ?_⟩ <;> (go_simp; done)) | go_keep) (first | (go_at_call 52; (refine (i_copyMachine m K.m H1.out _ (HM.out.below (by exact bel))).mono ?_; rintro e w2 ⟨y, rfl, hyo, hb⟩; (obtain ⟨yco, ycc, yuo, yuc, yvs, yeo, yec, rfl⟩ := MOwn.shapes hyo); have OM := Lib.hid hyo; have HB1 := Lib.hid hb; obtain ⟨kwa_0_0, kwa_0_1, kwa_0_2, kwa_0_3, kwa_0_4⟩ := kp5 hb (w.heap.size) (m.f.c) (m.f.u) (m.e) (.int .i64 K.calls) (.slice rvo K.refuse.length rvc); obtain ⟨kwa_1_0, fwa_1_0, kwa_1_1, fwa_1_1, kwa_1_2, fwa_1_2, kwa_1_3, fwa_1_3, kwa_1_4, fwa_1_4⟩ := kf5 hb (w.heap.size + 1) (.slice none 0 0) (.slice none 0 0) (.slice none 0 0) (.int .i64 0) (.slice none 0 0); have xwa_0 : w.heap.size < w2.heap.size := xc hb; have xwa_1 : w.heap.size + 1 < w2.heap.size := xc hb; have hzwa := hb.size; (try simp only [World.size_alloc, World.size_setCell, World.size_drew] at hzwa); clear hyo; simp only [MV.val]; obtain ⟨wa, rfl⟩ : ∃ x, x = w2 := ⟨_, rfl⟩)) | (go_at_call 53; (refine (i_copyInts _ K.refuse H2.out _ (HR.out.below (by exact bel))).mono ?_; rintro e w2 ⟨r', rfl, hro, hb⟩; obtain ⟨ro, rc, rfl, -, -⟩ := hro.shape; have OI := Lib.hid hro; have HB2 := Lib.hid hb; obtain ⟨kwb_0_0, kwb_0_1, kwb_0_2, kwb_0_3, kwb_0_4⟩ := kp5 hb (w.heap.size) (m.f.c) (m.f.u) (m.e) (.int .i64 K.calls) (.slice rvo K.refuse.length rvc); obtain ⟨kwb_1_0, fwb_1_0, kwb_1_1, fwb_1_1, kwb_1_2, fwb_1_2, kwb_1_3, fwb_1_3, kwb_1_4, fwb_1_4⟩ := kf5 hb (w.heap.size + 1) (.slice none 0 0) (.slice none 0 0) (.slice none 0 0) (.int .i64 0) (.slice none 0 0); have xwb_0 : w.heap.size < w2.heap.size := xc hb; have xwb_1 : w.heap.size + 1 < w2.heap.size := xc hb; have hzwb := hb.size; (try simp only [World.size_alloc, World.size_setCell, World.size_drew] at hzwb); clear hro; obtain ⟨wb, rfl⟩ : ∃ x, x = w2 := ⟨_, rfl⟩)))
  all_goals go_wp2
  skip
  refine bodyPost_ret (v := .agg #[.slice yco yvs.length ycc, .slice yuo K.m.f.used.length yuc, .slice yeo K.m.ents.length yec, .int .i64 K.calls, .slice ro K.refuse.length rc]) (by simp [results, Try.results25, go_sem, kwb_1_0, fwb_1_0, kwb_1_1, fwb_1_1, kwb_1_2, fwb_1_2, kwb_1_3, fwb_1_3, kwb_1_4, fwb_1_4, xwb_1]) rfl ?_
  have hB1 := HB1.out; have hB2 := HB2.out
  have OM2 : MOwn (w.heap.size + 1 + 1) wb _ K.m := (OM.out.below (by exact bel)).mono (by exact zt)
  refine ⟨⟨⟨⟨_, _, yvs⟩, _⟩, _⟩, rfl, ⟨by (have hm := MOwn.mono (B' := w.heap.size + 1 + 1) (OM2) (by exact zt); refine MOwn.mono (B := w.heap.size + 1 + 1) ?_ (by exact zt); (repeat (first | with_reducible exact hm | (with_reducible refine MOwn.offb ?_ (by omega) _) | (with_reducible refine MOwn.below ?_ ((Below.refl _ _).alloc (Nat.le_refl _) _)) | (with_reducible refine MOwn.below ?_ (Below.drew (Below.refl _ _))) | (refine MOwn.below ?_ (by with_reducible assumption))))), by (have hm := Own.mono (B' := w.heap.size + 1 + 1) (OI.out) (by exact zt); refine Own.mono (B := w.heap.size + 1 + 1) ?_ (by exact zt); (repeat (first | with_reducible exact hm | (with_reducible refine Own.offb ?_ (by omega) _) | (with_reducible refine Own.below ?_ ((Below.refl _ _).alloc (Nat.le_refl _) _)) | (with_reducible refine Own.below ?_ (Below.drew (Below.refl _ _))) | (refine Own.below ?_ (by with_reducible assumption))))), ?_⟩, by exact bel⟩
  exact nodup_blocks (l := [_]) (nodup_one _) OM.out.nd (fun g hg hm => by have h1 := (Own.lts OI.out) g hg; have h2 := (OM.out.lts) g hm; simp only [World.size_alloc, World.size_setCell, World.size_drew] at h1 h2; omega)

end Go.Proofs.Ytobechjagckdfaa
/-
  Does a slice of ints hold a number?
-/
set_option linter.unusedVariables false
set_option linter.unusedSimpArgs false
namespace Go.Proofs.Ytobechjagckdfaa
open Go.RowKit
theorem lecz (x y : Int) : (x ≤ y ∧ decide (x ≤ y) = true) ∨ (¬ x ≤ y ∧ decide (x ≤ y) = false) := by
  by_cases h : x ≤ y
  · exact .inl ⟨h, by simpa using h⟩
  · exact .inr ⟨h, by simpa using h⟩
def hasTo (xs : List Int) (x : Int) : Nat → Bool
  | 0 => false
  | k + 1 => hasTo xs x k || xs.getD k 0 == x
def hasI (xs : List Int) (x : Int) : Bool := hasTo xs x xs.length
theorem hasTo_succ {xs : List Int} {x y : Int} {k : Nat} (h : xs[k]? = some y) : hasTo xs x (k + 1) = (hasTo xs x k || y == x) := by rw [hasTo, getD_of h]
theorem hasTo_true {xs : List Int} {x : Int} {k n : Nat} (hk : k < n) (h : (xs.getD k 0 == x) = true) : hasTo xs x n = true := by
  induction n with
  | zero => omega
  | succ n ih =>
    rw [hasTo]
    rcases Nat.lt_or_ge k n with h1 | h1
    · rw [ih h1]; rfl
    · obtain rfl : k = n := by omega
      rw [h, Bool.or_true]
theorem s_l08Has (va : Value) (xs : List Int) (x : Int) (r : Bool) (hr : hasI xs x = r) (w : World) (ha : IntsAt w va xs) : Calls Try.prog 82 #[va, .int .i64 x] w fun e w' => e = .returned (.bool r) ∧ w = w' := by
  subst hr
  obtain ⟨ao, ca, rfl, _, hm, hra⟩ := IntsAt.open ha
  have hle : xs.length ≤ 9223372036854775807 := by unfold maxLen at hm; omega
  clear ha hm
  have HA := Lib.hid hra; clear hra
  (have hall := all_nil w; go_enter Try.func82, Try.ntmps82)
  go_wp2_with (first | (with_reducible refine wp_region_grew2 (by kernel_rfl) (by kernel_rfl) ?_; intro w2 hb; (first | have hn := nw4 hb hall (by exact zo) | have hn := nw3 hb hall (by exact zo) | have hn := nw2 hb hall (by exact zo) | have hn := nw1 hb hall (by exact zo) | have hn := nw0 hb hall (by exact zo)); obtain ⟨hc, hf, hn, hc0⟩ := hn; replace hall := hn; clear hn; have hz := hb.size; (try simp only [World.size_alloc, World.size_setCell, World.size_drew] at hz); have hx := hall; (try simp only [allLt, and_true] at hx); obtain ⟨w1, rfl⟩ : ∃ x, x = w2 := ⟨_, rfl⟩; (repeat (go_big_quiet_step (fail))); refine wpQuiet_nil ?_; intro w2 hw'; have hb := grew_below hw'; clear hw'; (first | have hn := nw4 hb hall (by exact zo) | have hn := nw3 hb hall (by exact zo) | have hn := nw2 hb hall (by exact zo) | have hn := nw1 hb hall (by exact zo) | have hn := nw0 hb hall (by exact zo)); obtain ⟨hc, hf, hn, hc0⟩ := hn; replace hall := hn; clear hn; have hz := hb.size; (try simp only [World.size_alloc, World.size_setCell, World.size_drew] at hz); have hx := hall; (try simp only [allLt, and_true] at hx); obtain ⟨w1, rfl⟩ : ∃ x, x = w2 := ⟨_, rfl⟩))
  go_loop [5] (fun i => ∃ k : Nat, k ≤ xs.length ∧ i = .int .i64 k ∧ hasTo xs x k = false) (fun i => xs.length - (intOf i).toNat)
  case atStart => exact ⟨0, Nat.zero_le _, rfl, rfl⟩
  case round =>
    obtain ⟨k, hk, rfl, hn⟩ := hrel
    have HN := Lib.hid hn; clear hn
    by_cases hlt : k < xs.length
    · have hlt' : (k : Int) < xs.length := by omega
      obtain ⟨y, hy⟩ := getx hlt
      obtain ⟨g, o, rfl, hg, c0⟩ := HA.out k y hy
      have HS := Lib.hid (hasTo_succ (x := x) hy)
      have HY := Lib.hid (getD_of (d := 0) hy)
      clear hy
      rcases eqc y x with ⟨b1, b2⟩ | ⟨b1, b2⟩
      all_goals rcases eqc x y with ⟨b3, b4⟩ | ⟨b3, b4⟩
      · go_wp2_with (first | (with_reducible refine wp_region_grew2 (by kernel_rfl) (by kernel_rfl) ?_; intro w2 hb; (first | have hn := nw4 hb hall (by exact zo) | have hn := nw3 hb hall (by exact zo) | have hn := nw2 hb hall (by exact zo) | have hn := nw1 hb hall (by exact zo) | have hn := nw0 hb hall (by exact zo)); obtain ⟨hc, hf, hn, hc0⟩ := hn; replace hall := hn; clear hn; have hz := hb.size; (try simp only [World.size_alloc, World.size_setCell, World.size_drew] at hz); have hx := hall; (try simp only [allLt, and_true] at hx); obtain ⟨w1, rfl⟩ : ∃ x, x = w2 := ⟨_, rfl⟩; (repeat (go_big_quiet_step (fail))); refine wpQuiet_nil ?_; intro w2 hw'; have hb := grew_below hw'; clear hw'; (first | have hn := nw4 hb hall (by exact zo) | have hn := nw3 hb hall (by exact zo) | have hn := nw2 hb hall (by exact zo) | have hn := nw1 hb hall (by exact zo) | have hn := nw0 hb hall (by exact zo)); obtain ⟨hc, hf, hn, hc0⟩ := hn; replace hall := hn; clear hn; have hz := hb.size; (try simp only [World.size_alloc, World.size_setCell, World.size_drew] at hz); have hx := hall; (try simp only [allLt, and_true] at hx); obtain ⟨w1, rfl⟩ : ∃ x, x = w2 := ⟨_, rfl⟩))
        all_goals go_ret
        all_goals exact ⟨ret_bool (a := true) (by rw [show hasI xs x = true from hasTo_true hlt (by rw [HY.out]; exact b1)]), rfl⟩
      · exfalso; simp at b1 b3; omega
      · exfalso; simp at b1 b3; omega
      · go_wp2_with (first | (with_reducible refine wp_region_grew2 (by kernel_rfl) (by kernel_rfl) ?_; intro w2 hb; (first | have hn := nw4 hb hall (by exact zo) | have hn := nw3 hb hall (by exact zo) | have hn := nw2 hb hall (by exact zo) | have hn := nw1 hb hall (by exact zo) | have hn := nw0 hb hall (by exact zo)); obtain ⟨hc, hf, hn, hc0⟩ := hn; replace hall := hn; clear hn; have hz := hb.size; (try simp only [World.size_alloc, World.size_setCell, World.size_drew] at hz); have hx := hall; (try simp only [allLt, and_true] at hx); obtain ⟨w1, rfl⟩ : ∃ x, x = w2 := ⟨_, rfl⟩; (repeat (go_big_quiet_step (fail))); refine wpQuiet_nil ?_; intro w2 hw'; have hb := grew_below hw'; clear hw'; (first | have hn := nw4 hb hall (by exact zo) | have hn := nw3 hb hall (by exact zo) | have hn := nw2 hb hall (by exact zo) | have hn := nw1 hb hall (by exact zo) | have hn := nw0 hb hall (by exact zo)); obtain ⟨hc, hf, hn, hc0⟩ := hn; replace hall := hn; clear hn; have hz := hb.size; (try simp only [World.size_alloc, World.size_setCell, World.size_drew] at hz); have hx := hall; (try simp only [allLt, and_true] at hx); obtain ⟨w1, rfl⟩ : ∃ x, x = w2 := ⟨_, rfl⟩))
        all_goals go_round
        case rel => exact ⟨k + 1, by omega, by go_num, by rw [HS.out, HN.out, b1]; rfl⟩
        case measure => simp [intOf]; omega
    · have hlt' : ¬ (k : Int) < xs.length := by omega
      obtain rfl : k = xs.length := by omega
      go_wp2_with (first | (with_reducible refine wp_region_grew2 (by kernel_rfl) (by kernel_rfl) ?_; intro w2 hb; (first | have hn := nw4 hb hall (by exact zo) | have hn := nw3 hb hall (by exact zo) | have hn := nw2 hb hall (by exact zo) | have hn := nw1 hb hall (by exact zo) | have hn := nw0 hb hall (by exact zo)); obtain ⟨hc, hf, hn, hc0⟩ := hn; replace hall := hn; clear hn; have hz := hb.size; (try simp only [World.size_alloc, World.size_setCell, World.size_drew] at hz); have hx := hall; (try simp only [allLt, and_true] at hx); obtain ⟨w1, rfl⟩ : ∃ x, x = w2 := ⟨_, rfl⟩; (repeat (go_big_quiet_step (fail))); refine wpQuiet_nil ?_; intro w2 hw'; have hb := grew_below hw'; clear hw'; (first | have hn := nw4 hb hall (by exact zo) | have hn := nw3 hb hall (by exact zo) | have hn := nw2 hb hall (by exact zo) | have hn := nw1 hb hall (by exact zo) | have hn := nw0 hb hall (by exact zo)); obtain ⟨hc, hf, hn, hc0⟩ := hn; replace hall := hn; clear hn; have hz := hb.size; (try simp only [World.size_alloc, World.size_setCell, World.size_drew] at hz); have hx := hall; (try simp only [allLt, and_true] at hx); obtain ⟨w1, rfl⟩ : ∃ x, x = w2 := ⟨_, rfl⟩))
      all_goals go_ret
      all_goals exact ⟨ret_bool (a := false) (by rw [show hasI xs x = false from HN.out]), rfl⟩
end Go.Proofs.Ytobechjagckdfaa
/-
  A counted call of a kernel: is it granted?
-/
set_option linter.unusedVariables false
set_option linter.unusedSimpArgs false
namespace Go.Proofs.Ytobechjagckdfaa
open Go.RowKit
def grantedB (K : Ker) : Bool := !hasI K.refuse K.calls
abbrev countedK (K : Ker) : Ker := ⟨K.m, K.calls + 1, K.refuse⟩
def NewKB (w : World) (K : Ker) (b : Bool) (e : Ending) (w' : World) : Prop := ∃ y : KV, e = .returned (.tuple #[y.val K.calls, .bool b]) ∧ KOwn w.heap.size w' y K ∧ Below w.heap.size w w'
theorem KOwn.counted {B : Nat} {w : World} {y : KV} {K : Ker} (h : KOwn B w y K) : KOwn B w y (countedK K) := ⟨h.m, h.ref, h.nd⟩

end Go.Proofs.Ytobechjagckdfaa
/-
  A page is protected: the kernel behind it.
-/
set_option linter.unusedVariables false
set_option linter.unusedSimpArgs false
namespace Go.Proofs.Ytobechjagckdfaa
open Go.RowKit
def setEnt (K : Ker) (p : Int) (e : Ent) : Ker := ⟨⟨K.m.f, K.m.ents.set p.toNat e⟩, K.calls, K.refuse⟩
theorem flat_set2 : ∀ (xs : List Ent) (i : Nat) (x : Ent), xs[i]? = some x → ∀ m : Int, (xs.flatMap fEnt).set (i * 2) (.int .i64 m) = (xs.set i ⟨m, x.f⟩).flatMap fEnt
  | [], i, x, hi, m => by simp at hi
  | y :: ys, 0, x, hi, m => by
    simp only [List.getElem?_cons_zero, Option.some.injEq] at hi
    subst hi
    simp [fEnt]
  | y :: ys, i + 1, x, hi, m => by
    simp only [List.getElem?_cons_succ] at hi
    have ih := flat_set2 ys i x hi m
    simp only [List.flatMap_cons, fEnt, List.set_cons_succ]
    rw [show (i + 1) * 2 = i * 2 + 1 + 1 by omega]
    simp only [List.cons_append, List.nil_append, List.set_cons_succ]
    rw [← ih]
theorem OwnEnt.setMode {B : Nat} {w : World} {v : Value} {xs : List Ent} {g n cap i : Nat} {x : Ent} (h : OwnEnt B w v xs) (hv : v = .slice (some ⟨g, 0, none⟩) n cap) (hi : xs[i]? = some x) (m : Int) :
    OwnEnt B (w.setCell ⟨g, i * 2, none⟩ (.int .i64 m)) v (xs.set i ⟨m, x.f⟩) ∧ w.grownBy (w.setCell ⟨g, i * 2, none⟩ (.int .i64 m)) v.ownBlock := by
  have hn : n = xs.length := by
    obtain ⟨ao, cap', he, _⟩ := h.shape
    rw [hv] at he; simp at he; exact he.2.1
  subst hv
  subst hn
  unfold OwnEnt Own at h
  obtain ⟨h1, h2⟩ := World.ownsRow.stored h (i * 2) (.int .i64 m)
  refine ⟨?_, h2⟩
  unfold OwnEnt Own
  rw [List.length_set, ← flat_set2 xs i x hi m]
  exact h1
/-- The entries have been written: all else stays. -/
theorem KOwn.setEnts {B : Nat} {w w' : World} {y : KV} {K : Ker} {es : List Ent} (h : KOwn B w y K) (hgr : w.grownBy w' y.m.e.ownBlock) (he : OwnEnt B w' y.m.e es) : KOwn B w' y ⟨⟨K.m.f, es⟩, K.calls, K.refuse⟩ := by
  have ap1 := nodup_apart (l := [y.m.e]) h.m.nd
  have ap2 := nodup_apart (l := [y.r]) h.nd
  have ht : Touch (blocks [y.m.e]) w w' := grown_touch hgr fun g hg => mem_one hg
  refine ⟨⟨h.m.f.touch ht (fun g hg hm => ap1 g hm hg), he, h.m.nd⟩, h.ref.touch ht fun g hg hm => ?_, h.nd⟩
  exact ap2 g (mem_one hg) (sub_left [y.m.e] _ g hm)
theorem KOwn.setMode {B : Nat} {w : World} {y : KV} {K : Ker} {g n cap i : Nat} {x : Ent} (h : KOwn B w y K) (hv : y.m.e = .slice (some ⟨g, 0, none⟩) n cap) (hi : K.m.ents[i]? = some x) (m : Int) :
    KOwn B (w.setCell ⟨g, i * 2, none⟩ (.int .i64 m)) y (setEnt K i ⟨m, x.f⟩) := by
  have S := OwnEnt.setMode h.m.ents hv hi m
  have := h.setEnts S.2 S.1
  unfold setEnt
  rw [Int.toNat_natCast]
  exact this
theorem mode_in {m : Int} (h1 : (m != 1) = true) (h2 : (m != 2) = true) : between m 1 2 = false := by
  simp at h1 h2
  rw [between_not]; omega
theorem mode_1 {m : Int} (h : (m == 1) = true) : between m 1 2 = true := by simp at h; subst h; rfl
theorem mode_2 {m : Int} (h : (m == 2) = true) : between m 1 2 = true := by simp at h; subst h; rfl
def protB (K : Ker) (p mode : Int) : Bool := grantedB K && mappedB K.m.ents p && between mode 1 2
def kProtK (K : Ker) (p mode : Int) : Ker := if canCall K then (if protB K p mode then setEnt (countedK K) p ⟨mode, (pageEntry K.m.ents p).f⟩ else countedK K) else K
theorem canCall_calls {K : Ker} (h : canCall K = true) : 0 ≤ K.calls ∧ K.calls ≤ 100000 := by
  unfold canCall at h
  rw [kernelOk_eq] at h; simp only [Bool.and_eq_true, between_iff] at h; exact h.2.1.1.2
theorem mapped_in {es : List Ent} {p : Int} (h : mappedB es p = true) : ∃ (k : Nat) (x : Ent), p = k ∧ es[k]? = some x ∧ pageEntry es p = x := by
  unfold mappedB at h
  by_cases hb : between p 0 (es.length - 1) = true
  · have hbb := between_iff.1 hb
    obtain ⟨k, rfl⟩ := Int.eq_ofNat_of_zero_le hbb.1
    obtain ⟨x, hx⟩ := getx (show k < es.length by omega)
    exact ⟨k, x, rfl, hx, by unfold pageEntry; rw [if_pos hb, Int.toNat_natCast, getD_of hx]⟩
  · unfold pageEntry at h
    rw [if_neg hb] at h
    simp at h

end Go.Proofs.Ytobechjagckdfaa
/-
  Copies of kernels, by the reference.
-/
set_option linter.unusedVariables false
set_option linter.unusedSimpArgs false
namespace Go.Proofs.Ytobechjagckdfaa
open Go.RowKit
theorem MOwn.grownNe {B : Nat} {w w' : World} {x : MV} {M : Mac} {row : Option Nat} (h : MOwn B w x M) (hgr : w.grownBy w' row) (hne : ∀ g ∈ blocks x.all, some g ≠ row) : MOwn B w' x M :=
  h.touch (S := row.toList) (grown_touch hgr (by simp)) fun g hg hm => hne g hg (by simp at hm; exact hm.symm)

end Go.Proofs.Ytobechjagckdfaa
/-
  A kernel behind a pointer: what the reference's steps leave there.
-/
set_option linter.unusedVariables false
set_option linter.unusedSimpArgs false
namespace Go.Proofs.Ytobechjagckdfaa
open Go.RowKit
structure KBox (w : World) (g : Nat) (y : KV) (calls : Int) : Prop where
  lt : g < w.heap.size
  c0 : w.cell? ⟨g, 0, none⟩ = some y.m.f.c
  c1 : w.cell? ⟨g, 1, none⟩ = some y.m.f.u
  c2 : w.cell? ⟨g, 2, none⟩ = some y.m.e
  c3 : w.cell? ⟨g, 3, none⟩ = some (.int .i64 calls)
  c4 : w.cell? ⟨g, 4, none⟩ = some y.r
  f0 : w.frozen? ⟨g, 0, none⟩ = false
  f1 : w.frozen? ⟨g, 1, none⟩ = false
  f2 : w.frozen? ⟨g, 2, none⟩ = false
  f3 : w.frozen? ⟨g, 3, none⟩ = false
  f4 : w.frozen? ⟨g, 4, none⟩ = false
theorem KBox.below {w w' : World} {g : Nat} {y : KV} {calls : Int} (h : KBox w g y calls) (hb : Below w.heap.size w w') : KBox w' g y calls :=
  have hs := hb.size
  have hl := h.lt
  ⟨by omega, (hb.cell (p := ⟨g, 0, none⟩) hl).trans h.c0, (hb.cell (p := ⟨g, 1, none⟩) hl).trans h.c1, (hb.cell (p := ⟨g, 2, none⟩) hl).trans h.c2, (hb.cell (p := ⟨g, 3, none⟩) hl).trans h.c3, (hb.cell (p := ⟨g, 4, none⟩) hl).trans h.c4,
    (hb.frozen (p := ⟨g, 0, none⟩) hl).trans h.f0, (hb.frozen (p := ⟨g, 1, none⟩) hl).trans h.f1, (hb.frozen (p := ⟨g, 2, none⟩) hl).trans h.f2, (hb.frozen (p := ⟨g, 3, none⟩) hl).trans h.f3, (hb.frozen (p := ⟨g, 4, none⟩) hl).trans h.f4⟩
theorem KBox.touch {S : List Nat} {w w' : World} {g : Nat} {y : KV} {calls : Int} (h : KBox w g y calls) (ht : Touch S w w') (hg : g ∉ S) : KBox w' g y calls :=
  have hs := ht.size
  have hl := h.lt
  ⟨by omega, (ht.cell hl hg).trans h.c0, (ht.cell hl hg).trans h.c1, (ht.cell hl hg).trans h.c2, (ht.cell hl hg).trans h.c3, (ht.cell hl hg).trans h.c4,
    (ht.frozen hl hg).trans h.f0, (ht.frozen hl hg).trans h.f1, (ht.frozen hl hg).trans h.f2, (ht.frozen hl hg).trans h.f3, (ht.frozen hl hg).trans h.f4⟩
/-- A kernel that the call owns, in a box of its own. -/
structure KIn (B : Nat) (w : World) (g : Nat) (y : KV) (K : Ker) : Prop where
  box : KBox w g y K.calls
  own : KOwn B w y K
  hB : B ≤ g
  ne : g ∉ blocks y.all
theorem KIn.below {B : Nat} {w w' : World} {g : Nat} {y : KV} {K : Ker} (h : KIn B w g y K) (hb : Below w.heap.size w w') : KIn B w' g y K := ⟨h.box.below hb, h.own.below hb, h.hB, h.ne⟩
theorem KOwn.setNe {B : Nat} {w : World} {y : KV} {K : Ker} (h : KOwn B w y K) {g o : Nat} (hg : g ∉ blocks y.all) (u : Value) : KOwn B (w.setCell ⟨g, o, none⟩ u) y K :=
  h.touch (S := [g]) (grown_touch (r := some g) (grown_setCell (grown_refl w _) o u) (by simp)) fun g' hg' hm => by simp at hm; subst hm; exact hg hg'
/-- What a step behind the pointer leaves. -/
theorem touch_cellT {S : List Nat} {w w' : World} {g i : Nat} {v : Value} (h : Touch S w w') (hg : g ∈ S) : Touch S w (w'.setCell ⟨g, i, none⟩ v) :=
  h.trans (grown_touch (r := some g) (grown_setCell (grown_refl w' _) _ _) (fun _ e => by cases e; exact hg))
def KDone (B g : Nat) (w : World) (b : Bool) (K : Ker) (e : Ending) (w' : World) : Prop := ∃ y : KV, e = .returned (.bool b) ∧ KIn B w' g y K ∧ Below B w w'
/-- The same, and nothing but the kernel's own blocks and its box are written. -/
def KDoneT (B g : Nat) (y : KV) (w : World) (b : Bool) (K : Ker) (e : Ending) (w' : World) : Prop := ∃ y' : KV, e = .returned (.bool b) ∧ KIn B w' g y' K ∧ Below B w w' ∧ Touch (g :: blocks y.all) w w' ∧ ∀ b ∈ blocks y'.all, b ∈ blocks y.all ∨ w.heap.size ≤ b
def KLeftT (B g : Nat) (y : KV) (w : World) (K : Ker) (e : Ending) (w' : World) : Prop := ∃ y' : KV, e = .returned (.tuple #[]) ∧ KIn B w' g y' K ∧ Below B w w' ∧ Touch (g :: blocks y.all) w w' ∧ ∀ b ∈ blocks y'.all, b ∈ blocks y.all ∨ w.heap.size ≤ b
theorem blocks_setV {y : KV} {i n : Nat} {v : Value} (hv : ∀ b, v.ownBlock = some b → n ≤ b) : ∀ b ∈ blocks (KV.all ⟨⟨⟨y.m.f.c, y.m.f.u, y.m.f.vs.set i v⟩, y.m.e⟩, y.r⟩), b ∈ blocks y.all ∨ n ≤ b := by
  intro b hb
  obtain ⟨u, hu, ho⟩ := mem_blocks.1 hb
  simp only [KV.all, MV.all, FV.all, List.mem_append, List.mem_cons, List.not_mem_nil, or_false] at hu
  by_cases hm : u ∈ y.all
  · exact .inl (mem_blocks.2 ⟨u, hm, ho⟩)
  · right
    simp only [KV.all, MV.all, FV.all, List.mem_append, List.mem_cons, List.not_mem_nil, or_false, not_or] at hm
    rcases hu with h | h | h | h | h
    · exact absurd h hm.1
    · exact absurd h hm.2.1
    · exact absurd h hm.2.2.1
    · exact absurd h hm.2.2.2.1
    · rcases List.mem_or_eq_of_mem_set h with h | h
      · exact absurd h hm.2.2.2.2
      · subst h; exact hv b ho
theorem touch_drw {S : List Nat} {w w' : World} (h : Touch S w w') : Touch S w w'.drew := h.trans (touch_of_below (Below.drew (Below.refl _ _)) S)
theorem touch_alc {S : List Nat} {w w' : World} (o : Obj) (h : Touch S w w') : Touch S w (w'.alloc o) := h.trans (touch_of_below ((Below.refl _ _).alloc (Nat.le_refl _) o) S)
set_option maxRecDepth 20000 in
set_option maxHeartbeats 800000 in
theorem s_l08CallT (B g : Nat) (y : KV) (K : Ker) (hc : 0 ≤ K.calls ∧ K.calls ≤ 100000) (w : World) (h : KIn B w g y K) : Calls Try.prog 71 #[.pointer (some ⟨g, 0, none⟩)] w fun e w' => e = .returned (.bool (grantedB K)) ∧ KIn B w' g y (countedK K) ∧ Below B w w' ∧ Touch (g :: blocks y.all) w w' := by
  have HI := Lib.hid h
  obtain ⟨xg, c0, c1, c2, c3, c4, f0, f1, f2, f3, f4⟩ := h.box
  obtain ⟨b, hb⟩ : ∃ b, b = hasI K.refuse K.calls := ⟨_, rfl⟩
  have HG := Lib.hid hb.symm
  have HE : Hid (grantedB K = !b) := by unfold Hid grantedB; rw [hb]
  rw [HE.out]
  clear h hb
  have hBz : B ≤ w.heap.size := by have := HI.out.hB; omega
  have hBg := HI.out.hB
  (have hall := all_nil w; go_enter Try.func71, Try.ntmps71)
  go_wp2
  have D1 : IntKind.i64.wrap (K.calls + 1 - 1) = K.calls := by rw [show K.calls + 1 - 1 = K.calls by omega]; exact IntWalk.i64_in _ (by omega)
  have D2 : wrap64 (K.calls + 1 - 1) = K.calls := by rw [show K.calls + 1 - 1 = K.calls by omega]; exact IntWalk.wrap64_in _ (by omega)
  have D3 : IntKind.i64.wrap K.calls = K.calls := IntWalk.i64_in _ (by omega)
  have D4 : wrap64 K.calls = K.calls := IntWalk.wrap64_in _ (by omega)
  have KI : Hid (KIn B (w.setCell ⟨g, 3, none⟩ (.int .i64 (K.calls + 1))) g y (countedK K)) := ⟨⟨by go_simp, by go_simp, by go_simp, by go_simp, by go_simp, by go_simp, by go_simp, by go_simp, by go_simp, by go_simp, by go_simp⟩, (KOwn.setNe HI.out.own HI.out.ne _).counted, hBg, HI.out.ne⟩
  have KB : Hid (Below B w (w.setCell ⟨g, 3, none⟩ (.int .i64 (K.calls + 1)))) := (Below.refl _ _).setCell hBg _
  have KT : Hid (Touch (g :: blocks y.all) w (w.setCell ⟨g, 3, none⟩ (.int .i64 (K.calls + 1)))) := touch_cellT (Touch.refl _ _) (List.mem_cons_self ..)
  clear xg c0 c1 c2 c3 c4 f0 f1 f2 f3 f4
  generalize w.setCell ⟨g, 3, none⟩ (.int .i64 (K.calls + 1)) = w1 at *
  obtain ⟨xg, c0, c1, c2, c3, c4, f0, f1, f2, f3, f4⟩ := KI.out.box
  dsimp only at c3
  go_region_held3 (fun w' => w'.cell? ⟨g, 3, none⟩ = some (.int .i64 (K.calls + 1)) ∧ w'.cell? ⟨g, 4, none⟩ = some y.r) (first | (refine ⟨?_, ?_⟩ <;> (go_simp; done)) | go_keep) (first | (go_at_call 82; refine (s_l08Has _ K.refuse K.calls _ HG.out _ (SlAt.below (KI.out.own.ref.at lenInt) (by exact bel))).mono ?_; rintro e w2 ⟨rfl, rfl⟩))
  all_goals go_wp2
  all_goals go_ret
  all_goals exact ⟨rfl, KI.out.below (by exact bel), by (have hK := KB.out; exact bel), KT.out.trans (touch_of_below (by exact bel) _)⟩
theorem s_l08Call (B g : Nat) (y : KV) (K : Ker) (hc : 0 ≤ K.calls ∧ K.calls ≤ 100000) (w : World) (h : KIn B w g y K) : Calls Try.prog 71 #[.pointer (some ⟨g, 0, none⟩)] w fun e w' => e = .returned (.bool (grantedB K)) ∧ KIn B w' g y (countedK K) ∧ Below B w w' :=
  (s_l08CallT B g y K hc w h).mono fun e w' ⟨h1, h2, h3, _⟩ => ⟨h1, h2, h3⟩
end Go.Proofs.Ytobechjagckdfaa
