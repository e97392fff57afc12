/-
  Texts put together: KCopyF.
-/
import Derived.Test.YtkkebpcclklmcaaGB12
import Derived.Deep.RegionHeld3
import Derived.Deep.RegionLaw
/-
  Copies of frames.
-/
set_option linter.unusedVariables false
set_option linter.unusedSimpArgs false
namespace Go.Proofs.Ytkkebpcclklmcaa
open Go.RowKit
set_option maxRecDepth 20000 in
set_option maxHeartbeats 3200000 in
theorem i_copyFrames (x : FV) (F : Frm) (hs : szF F ≤ 1048576) (w : World) (ha : FAt w x F) : Calls Try.prog 86 #[x.val] w (NewF w F) := by
  obtain ⟨c, u, vs⟩ := x
  obtain ⟨uo, uc, hu, h1, h2⟩ := ha.used.shape
  obtain ⟨co, cc, hc, h3, h4⟩ := RowsAt.shape ha.rows
  dsimp only at hu hc
  subst hu hc
  have HR := Lib.hid ha.rows; have HU := Lib.hid ha.used
  dsimp only at HR HU
  simp only [FV.val]
  have hs1 : F.cells.length + tot F.cells ≤ 1048576 := by unfold szF at hs; omega
  have hs2 : F.used.length ≤ 1048576 := by unfold szF at hs; omega
  have hm : F.cells.length ≤ 1048576 := by omega
  have HX := Lib.hid hs1
  clear ha h1 h2 h3 h4 hs hs1
  (have hall := all_nil w; go_enter Try.func86, Try.ntmps86)
  go_wp2_with ((at_builtin; refine wpList_appendAll elemBool rfl _ _ rfl lenBool oneBool rfl (Own.empty' _ _ _ (w.heap.size + 1 + 1) _ _ (by simp) (by exact zt)) (by exact zt) rfl (HU.out.below (by exact bel)) (by simp only [List.length_nil, maxLen]; omega) ?_; intro v2 w2 hown2 hgr2 hat2 hb; (try simp only [List.nil_append] at hown2); obtain ⟨v2o, v2c, rfl, -, -⟩ := hown2.shape; have OU := Lib.hid hown2; have HBA := Lib.hid hb; clear hown2 hgr2 hat2; have kwa_0_0 : w2.cell? ⟨w.heap.size, 0, none⟩ = some (.slice co F.cells.length cc) := kc hb; obtain ⟨kwa_1_0, fwa_1_0, kwa_1_1, fwa_1_1⟩ := kf2 hb (w.heap.size + 1) (.slice none 0 0) (.slice none 0 0); have xwa_0 : w.heap.size < w2.heap.size := xc hb; have xwa_1 : w.heap.size + 1 < w2.heap.size := xc hb; have hzwa := hb.size; (try simp only [World.size_alloc, World.size_setCell, World.size_drew] at hzwa); obtain ⟨wa, rfl⟩ : ∃ x, x = w2 := ⟨_, rfl⟩))
  have HBA2 : Hid (Below w.heap.size w wa) := by (have hB := HBA.out; unfold Hid; exact bel)
  have HZ := HBA2.out.size
  clear hb
  go_loopw [14] (fun i wr => ∃ (k : Nat) (co' : Option Addr) (cc' : Nat) (us : List Value), k ≤ F.cells.length ∧ i = .int .i64 k ∧ us.length = k ∧ OwnR (wa.heap.size + 1) wr (.slice co' k cc') us (F.cells.take k) ∧ (blocks (.slice co' k cc' :: us)).Nodup ∧ Below wa.heap.size wa wr ∧ wr.cell? ⟨wa.heap.size, 0, none⟩ = some (.slice co' k cc') ∧ wr.frozen? ⟨wa.heap.size, 0, none⟩ = false ∧ wr.cell? ⟨wa.heap.size, 1, none⟩ = some (.slice v2o F.used.length v2c) ∧ wr.frozen? ⟨wa.heap.size, 1, none⟩ = false ∧ wa.heap.size < wr.heap.size) (fun i _ => F.cells.length - (intOf i).toNat)
  case atStart =>
    refine ⟨0, none, 0, [], Nat.zero_le _, rfl, rfl, ⟨Own.nil _ _ _ _ _, rfl, fun i v r hv => by simp at hv⟩, nodup_one _, ?_, ?_, ?_, ?_, ?_, ?_⟩
    · exact bel
    all_goals first | (go_simp; done) | exact zt
  case round =>
    obtain ⟨k, co', cc', us, hk, rfl, hul, hown, hnd, hbel, k0, f0, k1, f1, xo⟩ := hrel
    have HO := Lib.hid hown; have HD := Lib.hid hnd; have HBL := Lib.hid hbel; have HUL := Lib.hid hul
    have hB2 := HBA2.out.trans (hbel.mono HZ)
    have HB := Lib.hid hB2
    have kp := (hbel.cell (p := ⟨w.heap.size, 0, none⟩) xwa_0).trans kwa_0_0
    have kr0 := (hbel.cell (p := ⟨w.heap.size + 1, 0, none⟩) xwa_1).trans kwa_1_0
    have kr1 := (hbel.cell (p := ⟨w.heap.size + 1, 1, none⟩) xwa_1).trans kwa_1_1
    have fr0 := (hbel.frozen (p := ⟨w.heap.size + 1, 0, none⟩) xwa_1).trans fwa_1_0
    have fr1 := (hbel.frozen (p := ⟨w.heap.size + 1, 1, none⟩) xwa_1).trans fwa_1_1
    have xp : w.heap.size < wr.heap.size := by omega
    have xr : w.heap.size + 1 < wr.heap.size := by omega
    clear hown hnd hbel kwa_0_0 kwa_1_0 kwa_1_1 fwa_1_0 fwa_1_1
    by_cases hlt : k < F.cells.length
    · have hlt' : (k : Int) < F.cells.length := by omega
      obtain ⟨g, o, ro, rl, rc, r, cap, he, hg, hr, hrl, hvj, hcc, hrm, hat⟩ := rowAt HR.out hlt
      simp only [Value.slice.injEq] at he
      obtain ⟨rfl, -, rfl⟩ := he
      replace hcc := (hB2.cell (p := ⟨g, o + k, none⟩) hg).trans hcc
      have HAT := Lib.hid hat
      have HRR := Lib.hid hr
      have hr16 : r.length ≤ 1048576 := by
        have h1 := lensTo_succ hr
        have h2 := lensTo_mono F.cells (j := k + 1) (k := F.cells.length) (by omega)
        have h3 := HX.out
        unfold tot at h3
        omega
      have hus : us.length ≤ 1048576 := by omega
      subst hrl
      have hsz2 := hB2.size
      clear hr hvj hat hul kr0 kr1 fr0 fr1
      obtain ⟨w1, rfl⟩ : ∃ x, x = wr := ⟨_, rfl⟩
      have xg : g < w1.heap.size := by omega
      go_wp2
      go_region_law ((first | (((refine step_enter rfl 51 rfl #[.slice ro r.length rc] (by go_simp) (i_copyInts _ r hr16 _ (HAT.out.below (by exact bel))) ?_; intro e2 w2 hnew; obtain ⟨ao, cap, rfl, hownN, hb⟩ := hnew.open; clear hnew; have HN := Lib.hid hownN; have HBC := Lib.hid hb; clear hownN; obtain ⟨kwc_O_0, fwc_O_0, kwc_O_1, fwc_O_1⟩ := kf2 hb (wa.heap.size) (.slice co' k cc') (.slice v2o F.used.length v2c); have xwc_O : wa.heap.size < w2.heap.size := xc hb; have hzwc := hb.size; (try simp only [World.size_alloc, World.size_setCell, World.size_drew] at hzwc); obtain ⟨wc, rfl⟩ : ∃ x, x = w2 := ⟨_, rfl⟩; refine ⟨_, rfl, ?_⟩))) | (((refine step_append1 elemRow rfl _ _ rfl lenVal (by rfl) (xs := us) (v := .slice co' k cc') (B := wa.heap.size + 1) (by exact Own.below HO.out.out (by exact bel)) (by exact zt) (by rfl) (.slice ao r.length cap) (fun u hu => (by simp [fVal] at hu; subst hu; rfl)) (by intro j u hj; match j, hj with | 0, hj => (simp [fVal] at hj; subst hj; go_simp) | j + 1, hj => simp [fVal] at hj) (by simp only [maxLen]; omega) ?_; intro v3 w2 hown3 hgr3 hat3 hb; obtain ⟨v3o, v3c, hv3, -, -⟩ := hown3.shape; rw [List.length_append, List.length_singleton, HUL.out] at hv3; subst hv3; have H3 := Lib.hid hown3; have HG3 := Lib.hid hgr3; have HA3 := Lib.hid hat3; have HB3 := Lib.hid hb; clear hown3 hgr3 hat3; obtain ⟨kwd_O_0, fwd_O_0, kwd_O_1, fwd_O_1⟩ := kf2 hb (wa.heap.size) (.slice co' k cc') (.slice v2o F.used.length v2c); have xwd_O : wa.heap.size < w2.heap.size := xc hb; have hzwd := hb.size; (try simp only [World.size_alloc, World.size_setCell, World.size_drew] at hzwd); obtain ⟨wd, rfl⟩ : ∃ x, x = w2 := ⟨_, rfl⟩)))))
      all_goals
        go_wp2
        go_roundw
        case rel =>
          clear hB2
          have hB3 := HB3.out; have hBC := HBC.out; have hBL := HBL.out
          have hcz := hBC.size
          (try simp only [World.size_alloc, World.size_setCell, World.size_drew] at hcz)
          have hfr : ∀ g', (Value.slice ao r.length cap).ownBlock = some g' → g' ∉ blocks (.slice co' k cc' :: us) := fun g' hg' hm' => by
            have h1 := (HN.out.lt g' hg').1
            have h2 := (HO.out.lt g' hm').2
            (try simp only [World.size_alloc, World.size_setCell, World.size_drew] at h1)
            omega
          have ND := nodup_grow HD.out hfr HA3.out (fun g' hg' => by
            rw [blocks_append, List.mem_append] at hg'
            rcases hg' with h5 | h5
            · have h2 := (HO.out.lt g' (blocks_sub (fun v hv => List.mem_cons_of_mem _ hv) g' h5)).2
              (try simp only [World.size_alloc, World.size_setCell, World.size_drew])
              omega
            · have h2 := (Own.lts HN.out g' h5).2
              (try simp only [World.size_alloc, World.size_setCell, World.size_drew])
              omega)
          have S := OwnRows.snoc (E := 3) (f := fInt) (rows := F.cells.take k) (r := r) (by exact OwnRows.below HO.out (by exact bel)) HD.out H3.out HG3.out (Own.grownNe (by exact Own.mono (B' := wa.heap.size + 1) (Own.below HN.out (by exact bel)) (by exact zt)) HG3.out (fun g' hg' e => hfr g' hg' (mem_blocks.2 ⟨_, List.mem_cons_self, e.symm⟩)))
          rw [← take_snoc HRR.out] at S
          exact ⟨k + 1, v3o, v3c, us ++ [.slice ao r.length cap], by omega, by go_num, by simp [HUL.out], OwnRows.offb S (by omega) _, ND, by exact bel, by go_simp, by go_simp, by go_simp, by go_simp, by go_simp⟩
        case measure => simp [intOf]; omega
    · have hlt' : ¬ (k : Int) < F.cells.length := by omega
      obtain rfl : k = F.cells.length := by omega
      clear hB2
      go_wp2
      refine bodyPost_ret (v := .agg #[.slice co' F.cells.length cc', .slice v2o F.used.length v2c]) (by simp [results, Try.results86, go_sem, k0, k1, f0, f1, kr0, kr1, fr0, fr1]) rfl ?_
      have OUR : OwnB (w.heap.size + 1 + 1) wr (.slice v2o F.used.length v2c) F.used := Own.belowB OU.out HBL.out fun g hg => (OU.out.lt g hg).2
      have hO := HO.out
      rw [List.take_of_length_le (Nat.le_refl _)] at hO
      have hB := HB.out
      refine ⟨⟨_, _, us⟩, rfl, ⟨by (have hm := OwnRows.mono (B' := wa.heap.size + 1) (hO) (by exact zt); refine OwnRows.mono (B := wa.heap.size + 1) ?_ (by exact zt); (repeat (first | with_reducible exact hm | (with_reducible refine OwnRows.offb ?_ (by omega) _)))), by (have hm := Own.mono (B' := w.heap.size + 1 + 1) (OUR) (by exact zt); refine Own.mono (B := w.heap.size + 1 + 1) ?_ (by exact zt); (repeat (first | with_reducible exact hm | (with_reducible refine Own.offb ?_ (by omega) _)))), ?_⟩, by exact bel⟩
      exact nodup_blocks (l := [_]) (nodup_one _) HD.out (fun g hg hm => by have h1 := (Own.lts OU.out g hg).2; have h2 := (HO.out.lt g hm).1; omega)

set_option maxRecDepth 20000 in
set_option maxHeartbeats 3200000 in
theorem s_l05Copy (x : FV) (F : Frm) (hs : szF F ≤ 1048576) (w : World) (ha : FAt w x F) : Calls Try.prog 92 #[x.val] w (NewF w F) := by
  obtain ⟨c, u, vs⟩ := x
  obtain ⟨uo, uc, hu, h1, h2⟩ := ha.used.shape
  obtain ⟨co, cc, hc, h3, h4⟩ := RowsAt.shape ha.rows
  dsimp only at hu hc
  subst hu hc
  have HR := Lib.hid ha.rows; have HU := Lib.hid ha.used
  dsimp only at HR HU
  simp only [FV.val]
  have hs1 : F.cells.length + tot F.cells ≤ 1048576 := by unfold szF at hs; omega
  have hs2 : F.used.length ≤ 1048576 := by unfold szF at hs; omega
  have hm : F.cells.length ≤ 1048576 := by omega
  have HX := Lib.hid hs1
  clear ha h1 h2 h3 h4 hs hs1
  (have hall := all_nil w; go_enter Try.func92, Try.ntmps92)
  go_wp2_with ((at_builtin; refine wpList_appendAll elemBool rfl _ _ rfl lenBool oneBool rfl (Own.empty' _ _ _ (w.heap.size + 1 + 1) _ _ (by simp) (by exact zt)) (by exact zt) rfl (HU.out.below (by exact bel)) (by simp only [List.length_nil, maxLen]; omega) ?_; intro v2 w2 hown2 hgr2 hat2 hb; (try simp only [List.nil_append] at hown2); obtain ⟨v2o, v2c, rfl, -, -⟩ := hown2.shape; have OU := Lib.hid hown2; have HBA := Lib.hid hb; clear hown2 hgr2 hat2; have kwa_0_0 : w2.cell? ⟨w.heap.size, 0, none⟩ = some (.slice co F.cells.length cc) := kc hb; obtain ⟨kwa_1_0, fwa_1_0, kwa_1_1, fwa_1_1⟩ := kf2 hb (w.heap.size + 1) (.slice none 0 0) (.slice none 0 0); have xwa_0 : w.heap.size < w2.heap.size := xc hb; have xwa_1 : w.heap.size + 1 < w2.heap.size := xc hb; have hzwa := hb.size; (try simp only [World.size_alloc, World.size_setCell, World.size_drew] at hzwa); obtain ⟨wa, rfl⟩ : ∃ x, x = w2 := ⟨_, rfl⟩))
  have HBA2 : Hid (Below w.heap.size w wa) := by (have hB := HBA.out; unfold Hid; exact bel)
  have HZ := HBA2.out.size
  clear hb
  go_loopw [4] (fun i wr => ∃ (k : Nat) (co' : Option Addr) (cc' : Nat) (us : List Value), k ≤ F.cells.length ∧ i = .int .i64 k ∧ us.length = k ∧ OwnR (wa.heap.size + 1) wr (.slice co' k cc') us (F.cells.take k) ∧ (blocks (.slice co' k cc' :: us)).Nodup ∧ Below wa.heap.size wa wr ∧ wr.cell? ⟨wa.heap.size, 0, none⟩ = some (.slice co' k cc') ∧ wr.frozen? ⟨wa.heap.size, 0, none⟩ = false ∧ wr.cell? ⟨wa.heap.size, 1, none⟩ = some (.slice v2o F.used.length v2c) ∧ wr.frozen? ⟨wa.heap.size, 1, none⟩ = false ∧ wa.heap.size < wr.heap.size) (fun i _ => F.cells.length - (intOf i).toNat)
  case atStart =>
    refine ⟨0, none, 0, [], Nat.zero_le _, rfl, rfl, ⟨Own.nil _ _ _ _ _, rfl, fun i v r hv => by simp at hv⟩, nodup_one _, ?_, ?_, ?_, ?_, ?_, ?_⟩
    · exact bel
    all_goals first | (go_simp; done) | exact zt
  case round =>
    obtain ⟨k, co', cc', us, hk, rfl, hul, hown, hnd, hbel, k0, f0, k1, f1, xo⟩ := hrel
    have HO := Lib.hid hown; have HD := Lib.hid hnd; have HBL := Lib.hid hbel; have HUL := Lib.hid hul
    have hB2 := HBA2.out.trans (hbel.mono HZ)
    have HB := Lib.hid hB2
    have kp := (hbel.cell (p := ⟨w.heap.size, 0, none⟩) xwa_0).trans kwa_0_0
    have kr0 := (hbel.cell (p := ⟨w.heap.size + 1, 0, none⟩) xwa_1).trans kwa_1_0
    have kr1 := (hbel.cell (p := ⟨w.heap.size + 1, 1, none⟩) xwa_1).trans kwa_1_1
    have fr0 := (hbel.frozen (p := ⟨w.heap.size + 1, 0, none⟩) xwa_1).trans fwa_1_0
    have fr1 := (hbel.frozen (p := ⟨w.heap.size + 1, 1, none⟩) xwa_1).trans fwa_1_1
    have xp : w.heap.size < wr.heap.size := by omega
    have xr : w.heap.size + 1 < wr.heap.size := by omega
    clear hown hnd hbel kwa_0_0 kwa_1_0 kwa_1_1 fwa_1_0 fwa_1_1
    by_cases hlt : k < F.cells.length
    · have hlt' : (k : Int) < F.cells.length := by omega
      obtain ⟨g, o, ro, rl, rc, r, cap, he, hg, hr, hrl, hvj, hcc, hrm, hat⟩ := rowAt HR.out hlt
      simp only [Value.slice.injEq] at he
      obtain ⟨rfl, -, rfl⟩ := he
      replace hcc := (hB2.cell (p := ⟨g, o + k, none⟩) hg).trans hcc
      have HAT := Lib.hid hat
      have HRR := Lib.hid hr
      have hr16 : r.length ≤ 1048576 := by
        have h1 := lensTo_succ hr
        have h2 := lensTo_mono F.cells (j := k + 1) (k := F.cells.length) (by omega)
        have h3 := HX.out
        unfold tot at h3
        omega
      have hus : us.length ≤ 1048576 := by omega
      subst hrl
      have hsz2 := hB2.size
      clear hr hvj hat hul kr0 kr1 fr0 fr1
      obtain ⟨w1, rfl⟩ : ∃ x, x = wr := ⟨_, rfl⟩
      have xg : g < w1.heap.size := by omega
      go_wp2
      go_region_law ((first | ((refine step_appendAll elemInt rfl _ _ rfl lenInt oneInt rfl (xs := []) (B := w1.heap.size) (Own.empty' _ _ _ (w1.heap.size) _ _ (by simp) (by exact zt)) (by exact zt) rfl (HAT.out.below (by exact bel)) (by simp only [List.length_nil, maxLen]; omega) ?_; intro v4 w2 hown4 hgr4 hat4 hb; (try simp only [List.nil_append] at hown4); obtain ⟨ao, cap, rfl, -, -⟩ := hown4.shape; have HN := Lib.hid hown4; have HBC := Lib.hid hb; have HA4 := Lib.hid hat4; clear hown4 hgr4 hat4; obtain ⟨kwc_O_0, fwc_O_0, kwc_O_1, fwc_O_1⟩ := kf2 hb (wa.heap.size) (.slice co' k cc') (.slice v2o F.used.length v2c); have kwc_P_0 : w2.cell? ⟨w.heap.size, 0, none⟩ = some (.slice (some ⟨g, o, none⟩) F.cells.length cc) := kc hb; have kwc_G : w2.cell? ⟨g, o + k, none⟩ = some (.slice ro r.length rc) := kc hb; have xwc_O : wa.heap.size < w2.heap.size := xc hb; have xwc_P : w.heap.size < w2.heap.size := xc hb; have xwc_G : g < w2.heap.size := xc hb; have hzwc := hb.size; (try simp only [World.size_alloc, World.size_setCell, World.size_drew] at hzwc); obtain ⟨wc, rfl⟩ : ∃ x, x = w2 := ⟨_, rfl⟩)) | (((refine step_append1 elemRow rfl _ _ rfl lenVal (by rfl) (xs := us) (v := .slice co' k cc') (B := wa.heap.size + 1) (by exact Own.below HO.out.out (by exact bel)) (by exact zt) (by rfl) (.slice ao r.length cap) (fun u hu => (by simp [fVal] at hu; subst hu; rfl)) (by intro j u hj; match j, hj with | 0, hj => (simp [fVal] at hj; subst hj; go_simp) | j + 1, hj => simp [fVal] at hj) (by simp only [maxLen]; omega) ?_; intro v3 w2 hown3 hgr3 hat3 hb; obtain ⟨v3o, v3c, hv3, -, -⟩ := hown3.shape; rw [List.length_append, List.length_singleton, HUL.out] at hv3; subst hv3; have H3 := Lib.hid hown3; have HG3 := Lib.hid hgr3; have HA3 := Lib.hid hat3; have HB3 := Lib.hid hb; clear hown3 hgr3 hat3; obtain ⟨kwd_O_0, fwd_O_0, kwd_O_1, fwd_O_1⟩ := kf2 hb (wa.heap.size) (.slice co' k cc') (.slice v2o F.used.length v2c); have kwd_P_0 : w2.cell? ⟨w.heap.size, 0, none⟩ = some (.slice (some ⟨g, o, none⟩) F.cells.length cc) := kc hb; have kwd_G : w2.cell? ⟨g, o + k, none⟩ = some (.slice ro r.length rc) := kc hb; have xwd_O : wa.heap.size < w2.heap.size := xc hb; have xwd_P : w.heap.size < w2.heap.size := xc hb; have xwd_G : g < w2.heap.size := xc hb; have hzwd := hb.size; (try simp only [World.size_alloc, World.size_setCell, World.size_drew] at hzwd); obtain ⟨wd, rfl⟩ : ∃ x, x = w2 := ⟨_, rfl⟩)))))
      all_goals
        go_wp2
        go_roundw
        case rel =>
          clear hB2
          have hB3 := HB3.out; have hBC := HBC.out; have hBL := HBL.out
          have hcz := hBC.size
          (try simp only [World.size_alloc, World.size_setCell, World.size_drew] at hcz)
          have hfr : ∀ g', (Value.slice ao r.length cap).ownBlock = some g' → g' ∉ blocks (.slice co' k cc' :: us) := fun g' hg' hm' => by
            have h1 := (HN.out.lt g' hg').1
            have h2 := (HO.out.lt g' hm').2
            (try simp only [World.size_alloc, World.size_setCell, World.size_drew] at h1)
            omega
          have ND := nodup_grow HD.out hfr HA3.out (fun g' hg' => by
            rw [blocks_append, List.mem_append] at hg'
            rcases hg' with h5 | h5
            · have h2 := (HO.out.lt g' (blocks_sub (fun v hv => List.mem_cons_of_mem _ hv) g' h5)).2
              (try simp only [World.size_alloc, World.size_setCell, World.size_drew])
              omega
            · have h2 := (Own.lts HN.out g' h5).2
              (try simp only [World.size_alloc, World.size_setCell, World.size_drew])
              omega)
          have S := OwnRows.snoc (E := 3) (f := fInt) (rows := F.cells.take k) (r := r) (by exact OwnRows.below HO.out (by exact bel)) HD.out H3.out HG3.out (Own.grownNe (by exact Own.mono (B' := wa.heap.size + 1) (Own.below HN.out (by exact bel)) (by exact zt)) HG3.out (fun g' hg' e => hfr g' hg' (mem_blocks.2 ⟨_, List.mem_cons_self, e.symm⟩)))
          rw [← take_snoc HRR.out] at S
          exact ⟨k + 1, v3o, v3c, us ++ [.slice ao r.length cap], by omega, by go_num, by simp [HUL.out], OwnRows.offb S (by omega) _, ND, by exact bel, by go_simp, by go_simp, by go_simp, by go_simp, by go_simp⟩
        case measure => simp [intOf]; omega
    · have hlt' : ¬ (k : Int) < F.cells.length := by omega
      obtain rfl : k = F.cells.length := by omega
      clear hB2
      go_wp2
      refine bodyPost_ret (v := .agg #[.slice co' F.cells.length cc', .slice v2o F.used.length v2c]) (by simp [results, Try.results92, go_sem, k0, k1, f0, f1, kr0, kr1, fr0, fr1]) rfl ?_
      have OUR : OwnB (w.heap.size + 1 + 1) wr (.slice v2o F.used.length v2c) F.used := Own.belowB OU.out HBL.out fun g hg => (OU.out.lt g hg).2
      have hO := HO.out
      rw [List.take_of_length_le (Nat.le_refl _)] at hO
      have hB := HB.out
      refine ⟨⟨_, _, us⟩, rfl, ⟨by (have hm := OwnRows.mono (B' := wa.heap.size + 1) (hO) (by exact zt); refine OwnRows.mono (B := wa.heap.size + 1) ?_ (by exact zt); (repeat (first | with_reducible exact hm | (with_reducible refine OwnRows.offb ?_ (by omega) _)))), by (have hm := Own.mono (B' := w.heap.size + 1 + 1) (OUR) (by exact zt); refine Own.mono (B := w.heap.size + 1 + 1) ?_ (by exact zt); (repeat (first | with_reducible exact hm | (with_reducible refine Own.offb ?_ (by omega) _)))), ?_⟩, by exact bel⟩
      exact nodup_blocks (l := [_]) (nodup_one _) HD.out (fun g hg hm => by have h1 := (Own.lts OU.out g hg).2; have h2 := (HO.out.lt g hm).1; omega)

end Go.Proofs.Ytkkebpcclklmcaa
