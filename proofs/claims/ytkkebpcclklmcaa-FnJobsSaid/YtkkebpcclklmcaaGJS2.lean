/-
  Texts put together: PageT, JobsLaw.
-/
import Derived.Test.YtkkebpcclklmcaaGB40
import Derived.Test.YtkkebpcclklmcaaGB12
import Derived.Test.YtkkebpcclklmcaaGB24
import Derived.Test.YtkkebpcclklmcaaGB45
import Derived.Test.YtkkebpcclklmcaaGJS1
/-
  The text of a page, both sides; the frames in use.
-/
set_option linter.unusedVariables false
set_option linter.unusedSimpArgs false
namespace Go.Proofs.Ytkkebpcclklmcaa
open Go.RowKit
theorem i_PageText (x : MV) (M : Mac) (p em : Int) (fr : Nat) (r : List Int) (hM : machineOk M = true) (hpe : pageEntry M.ents p = ⟨em, (fr : Int)⟩) (hem : ¬ em = 0) (hr : M.f.cells[fr]? = some r) (hr16 : r.length = 16) (w : World) (ha : MAt w x M) : Calls Try.prog 21 #[x.val, .int .i64 p] w (NewInts w r) := by
  obtain ⟨⟨xc, xu, xvs⟩, xe⟩ := x
  obtain ⟨co, cc, hc, _, hcm⟩ := RowsAt.shape ha.f.rows
  dsimp only at hc
  subst hc
  obtain ⟨g, o, ro, rl, rc, r', cap, he, hg, hr', hrl, -, hcc, -, hat⟩ := rowAt ha.f.rows (getx_lt hr)
  obtain rfl : r = r' := by rw [hr] at hr'; exact Option.some.inj hr'
  simp only [Value.slice.injEq] at he
  obtain ⟨rfl, -, rfl⟩ := he
  have HA := Lib.hid ha
  have PE := Lib.hid (fun W (hW : Below w.heap.size w W) => by have h := i_PageEntry xe M.ents p W (ha.ents.below hW); rwa [hpe] at h : ∀ W (hW : Below w.heap.size w W), Calls Try.prog 50 #[.agg #[xe], .int .i64 p] W fun e w' => e = .returned (.agg #[.int .i64 em, .int .i64 (fr : Int)]) ∧ Below W.heap.size W w')
  have hcl : M.f.cells.length ≤ 9223372036854775807 := by unfold maxLen at hcm; omega
  have hfl : (fr : Int) < M.f.cells.length := by have := getx_lt hr; omega
  have hem2 : (em == (0 : Int)) = false := beq_false_of_ne hem
  rw [hrl] at hcc hat
  have HAT := Lib.hid hat
  have hr9 : r.length ≤ 1048576 := by omega
  simp only [MV.val, FV.val]
  clear ha hcm hpe hr hr' hrl hat hr16
  (have hall := all_nil w; go_enter Try.func21, Try.ntmps21)
  go_wp2_with (first | (go_at_call 50; (refine (PE.out _ (by exact bel)).mono ?_; rintro e w2 ⟨rfl, hb⟩; have HB1 := Lib.hid hb; obtain ⟨kwa_0_0, kwa_0_1, kwa_0_2⟩ := kp3 hb (w.heap.size) (.slice (some ⟨g, o, none⟩) M.f.cells.length cc) (xu) (xe); have kwa_R0 : w2.cell? ⟨g, o + fr, none⟩ = some (.slice ro r.length rc) := kc hb; have xwa_0 : w.heap.size < w2.heap.size := xc hb; have xwa_RG : g < w2.heap.size := xc hb; have hzwa := hb.size; (try simp only [World.size_alloc, World.size_setCell, World.size_drew] at hzwa); obtain ⟨wa, rfl⟩ : ∃ x, x = w2 := ⟨_, rfl⟩)) | (go_at_call 45; (refine (i_MachineOk (⟨⟨.slice (some ⟨g, o, none⟩) M.f.cells.length cc, xu, xvs⟩, xe⟩ : MV) M true hM _ (HA.out.below (by (have hB1 := HB1.out; exact bel)))).mono ?_; rintro e w2 ⟨rfl, hb⟩; have HB2 := Lib.hid hb; obtain ⟨kwb_0_0, kwb_0_1, kwb_0_2⟩ := kp3 hb (w.heap.size) (.slice (some ⟨g, o, none⟩) M.f.cells.length cc) (xu) (xe); have kwb_R0 : w2.cell? ⟨g, o + fr, none⟩ = some (.slice ro r.length rc) := kc hb; obtain ⟨kwb_E_0, kwb_E_1⟩ := kp2 hb (wa.heap.size) (.int .i64 em) (.int .i64 (fr : Int)); have xwb_0 : w.heap.size < w2.heap.size := xc hb; have xwb_RG : g < w2.heap.size := xc hb; have xwb_E : wa.heap.size < w2.heap.size := xc hb; have hzwb := hb.size; (try simp only [World.size_alloc, World.size_setCell, World.size_drew] at hzwb); obtain ⟨wb, rfl⟩ : ∃ x, x = w2 := ⟨_, rfl⟩)) | (go_at_call 51; (refine (i_copyInts _ r (by omega) _ (SlAt.below HAT.out (by (have hB1 := HB1.out; have hB2 := HB2.out; exact bel)))).mono ?_; rintro e w2 ⟨v', rfl, hvo, hb⟩; obtain ⟨v2o, v2c, rfl, -, -⟩ := hvo.shape; have OV := Lib.hid hvo; have HB3 := Lib.hid hb; clear hvo; obtain ⟨wc, rfl⟩ : ∃ x, x = w2 := ⟨_, rfl⟩)))
  have hB1 := HB1.out; have hB2 := HB2.out; have hB3 := HB3.out
  go_ret
  exact ⟨_, rfl, OV.out.mono (by first | omega | (have := hB1.size; have := hB2.size; simp only [World.size_alloc] at *; omega)), by exact bel⟩

theorem s_PageText (x : MV) (M : Mac) (p em : Int) (fr : Nat) (r : List Int) (hM : machineOk M = true) (hpe : pageEntry M.ents p = ⟨em, (fr : Int)⟩) (hem : ¬ em = 0) (hr : M.f.cells[fr]? = some r) (hr16 : r.length = 16) (w : World) (ha : MAt w x M) : Calls Try.prog 20 #[x.val, .int .i64 p] w (NewInts w r) := by
  obtain ⟨⟨xc, xu, xvs⟩, xe⟩ := x
  obtain ⟨co, cc, hc, _, hcm⟩ := RowsAt.shape ha.f.rows
  dsimp only at hc
  subst hc
  obtain ⟨g, o, ro, rl, rc, r', cap, he, hg, hr', hrl, -, hcc, -, hat⟩ := rowAt ha.f.rows (getx_lt hr)
  obtain rfl : r = r' := by rw [hr] at hr'; exact Option.some.inj hr'
  simp only [Value.slice.injEq] at he
  obtain ⟨rfl, -, rfl⟩ := he
  have HA := Lib.hid ha
  have PE := Lib.hid (fun W (hW : Below w.heap.size w W) => by have h := s_PageEntry xe M.ents p W (ha.ents.below hW); rwa [hpe] at h : ∀ W (hW : Below w.heap.size w W), Calls Try.prog 18 #[.agg #[xe], .int .i64 p] W fun e w' => e = .returned (.agg #[.int .i64 em, .int .i64 (fr : Int)]) ∧ Below W.heap.size W w')
  have hcl : M.f.cells.length ≤ 9223372036854775807 := by unfold maxLen at hcm; omega
  have hfl : (fr : Int) < M.f.cells.length := by have := getx_lt hr; omega
  have hem2 : (em == (0 : Int)) = false := beq_false_of_ne hem
  rw [hrl] at hcc hat
  have HAT := Lib.hid hat
  have hr9 : r.length ≤ 1048576 := by omega
  simp only [MV.val, FV.val]
  clear ha hcm hpe hr hr' hrl hat hr16
  (have hall := all_nil w; go_enter Try.func20, Try.ntmps20)
  go_wp2_with (first | (go_at_call 18; (refine (PE.out _ (by exact bel)).mono ?_; rintro e w2 ⟨rfl, hb⟩; have HB1 := Lib.hid hb; obtain ⟨kwa_0_0, kwa_0_1, kwa_0_2⟩ := kp3 hb (w.heap.size) (.slice (some ⟨g, o, none⟩) M.f.cells.length cc) (xu) (xe); have kwa_R0 : w2.cell? ⟨g, o + fr, none⟩ = some (.slice ro r.length rc) := kc hb; have xwa_0 : w.heap.size < w2.heap.size := xc hb; have xwa_RG : g < w2.heap.size := xc hb; have hzwa := hb.size; (try simp only [World.size_alloc, World.size_setCell, World.size_drew] at hzwa); obtain ⟨wa, rfl⟩ : ∃ x, x = w2 := ⟨_, rfl⟩)) | (go_at_call 42; (refine (s_MachineOk (⟨⟨.slice (some ⟨g, o, none⟩) M.f.cells.length cc, xu, xvs⟩, xe⟩ : MV) M true hM _ (HA.out.below (by (have hB1 := HB1.out; exact bel)))).mono ?_; rintro e w2 ⟨rfl, hb⟩; have HB2 := Lib.hid hb; obtain ⟨kwb_0_0, kwb_0_1, kwb_0_2⟩ := kp3 hb (w.heap.size) (.slice (some ⟨g, o, none⟩) M.f.cells.length cc) (xu) (xe); have kwb_R0 : w2.cell? ⟨g, o + fr, none⟩ = some (.slice ro r.length rc) := kc hb; obtain ⟨kwb_E_0, kwb_E_1⟩ := kp2 hb (wa.heap.size) (.int .i64 em) (.int .i64 (fr : Int)); have xwb_0 : w.heap.size < w2.heap.size := xc hb; have xwb_RG : g < w2.heap.size := xc hb; have xwb_E : wa.heap.size < w2.heap.size := xc hb; have hzwb := hb.size; (try simp only [World.size_alloc, World.size_setCell, World.size_drew] at hzwb); obtain ⟨wb, rfl⟩ : ∃ x, x = w2 := ⟨_, rfl⟩)) | (at_builtin; refine wpList_appendAll elemInt rfl _ _ rfl lenInt oneInt rfl (Own.empty' _ _ _ (wb.heap.size) _ _ (by first | rfl | simp) (by exact zt)) (by exact zt) rfl (SlAt.below HAT.out (by (have hB1 := HB1.out; have hB2 := HB2.out; exact bel))) (by simp only [List.length_nil, maxLen]; omega) ?_; intro v2 w2 hown2 hgr2 hat2 hb; (try simp only [List.nil_append] at hown2); obtain ⟨v2o, v2c, rfl, -, -⟩ := hown2.shape; have OV := Lib.hid hown2; have HB3 := Lib.hid hb; clear hown2 hgr2 hat2; obtain ⟨wc, rfl⟩ : ∃ x, x = w2 := ⟨_, rfl⟩))
  have hB1 := HB1.out; have hB2 := HB2.out; have hB3 := HB3.out
  go_ret
  exact ⟨_, rfl, OV.out.mono (by first | omega | (have := hB1.size; have := hB2.size; simp only [World.size_alloc] at *; omega)), by exact bel⟩

theorem usedTo_le (us : List Bool) : ∀ k, usedTo us k ≤ k
  | 0 => Nat.le_refl _
  | k + 1 => by
    have := usedTo_le us k
    rw [usedTo]
    split <;> omega
theorem s_UsedFrames (x : FV) (F : Frm) (hF : framesOk F = true) (h9 : F.used.length ≤ 9999) (w : World) (ha : FAt w x F) : Calls Try.prog 24 #[x.val] w fun e w' => e = .returned (.int .i64 (usedN F : Nat)) ∧ Below w.heap.size w w' := by
  have hn : usedN F = usedTo F.used F.used.length := by unfold usedN; rw [hF, if_pos rfl]
  rw [hn]; clear hn
  obtain ⟨xc, xu, xvs⟩ := x
  obtain ⟨uo, uc, hu, -, -, hrb⟩ := BoolsAt.open ha.used
  dsimp only at hu
  subst hu
  have HA := Lib.hid ha; have HR := Lib.hid hrb
  simp only [FV.val]
  clear ha hrb
  (have hall := all_nil w; go_enter Try.func24, Try.ntmps24)
  go_wp2_with fail
  have hb0 : Below w.heap.size w (w.alloc (.cells #[xc, .slice uo F.used.length uc] 27)) := (Below.refl _ _).alloc (Nat.le_refl _) _
  have BX := Lib.hid (show BoxAt (w.alloc (.cells #[xc, .slice uo F.used.length uc] 27)) w.heap.size [xc, .slice uo F.used.length uc] from BoxAt.snoc (BoxAt.snoc (BoxAt.nil (by go_simp)) rfl (by go_simp) (by go_simp)) rfl (by go_simp) (by go_simp))
  have HB0 := Lib.hid hb0
  clear hb0
  go_loopw [3, 4] (fun s i wr => ∃ j : Nat, j ≤ F.used.length ∧ i = .int .i64 (j : Nat) ∧ s = .int .i64 (usedTo F.used j : Nat) ∧ BoxAt wr w.heap.size [xc, .slice uo F.used.length uc] ∧ Below w.heap.size w wr) (fun _ i _ => F.used.length - (intOf i).toNat)
  case atStart => exact ⟨0, Nat.zero_le _, rfl, rfl, BX.out, HB0.out⟩
  case round =>
    obtain ⟨j, hj, rfl, rfl, hbx, hbel⟩ := hrel
    obtain ⟨w1, rfl⟩ : ∃ q, q = wr := ⟨_, rfl⟩
    have HX := Lib.hid hbx; have HL := Lib.hid hbel
    clear hbx hbel BX HB0
    have c0 := (HX.out.cells 0 _ rfl).1; have c1 := (HX.out.cells 1 _ rfl).1; have xg := HX.out.lt
    by_cases hlt : j < F.used.length
    · have hlt' : (j : Int) < (F.used.length : Nat) := by omega
      obtain ⟨b, hb'⟩ := getx hlt
      obtain ⟨ga, oa, rfl, hga, c2⟩ := HR.out j b hb'
      have hun : usedTo F.used (j + 1) = usedTo F.used j + if b = true then 1 else 0 := by rw [usedTo, getD_of hb']
      have hle := usedTo_le F.used j
      clear hb'
      go_wp2_with fail
      refine (s_FramesOk ⟨xc, .slice (some ⟨ga, oa, none⟩) F.used.length uc, xvs⟩ F true hF _ (HA.out.below HL.out)).mono ?_; rintro e w2 ⟨rfl, hb⟩
      have HX2 := Lib.hid (HX.out.below hb); have HL2 := Lib.hid (HL.out.trans (hb.mono HL.out.size))
      clear c0 c1 xg
      have c0 := (HX2.out.cells 0 _ rfl).1; have c1 := (HX2.out.cells 1 _ rfl).1; have xg := HX2.out.lt
      have c3 := (HL2.out.cell (p := ⟨ga, oa + j, none⟩) hga).trans c2
      have xga : ga < w2.heap.size := Nat.lt_of_lt_of_le hga HL2.out.size
      clear hb c2
      generalize usedTo F.used j = u at *
      have hw1 : wrap64 ((u : Int) + 1) = (u : Int) + 1 := IntWalk.wrap64_in _ (by omega)
      have hw2 : IntKind.i64.wrap ((u : Int) + 1) = (u : Int) + 1 := IntWalk.i64_in _ (by omega)
      cases b
      · go_wp2_with fail
        go_roundw
        case rel => exact ⟨j + 1, hlt, by go_num, by rw [hun]; simp, HX2.out, HL2.out⟩
        case measure => simp [intOf]; omega
      · go_wp2_with fail
        go_roundw
        case rel => exact ⟨j + 1, hlt, by go_num, by rw [hun]; simp, HX2.out, HL2.out⟩
        case measure => simp [intOf]; omega
    · obtain rfl : j = F.used.length := by omega
      have hlt' : ¬ (F.used.length : Int) < (F.used.length : Nat) := by omega
      go_wp2_with fail
      go_ret
      exact ⟨rfl, HL.out⟩

end Go.Proofs.Ytkkebpcclklmcaa
/-
  How a run of 200 steps ends, with the texts of the pages. Plain laws.
-/
set_option linter.unusedVariables false
set_option linter.unusedSimpArgs false
namespace Go.Proofs.Ytkkebpcclklmcaa
open Go.RowKit
structure JobsP (K : Ker) (R : JS) (kp mv : Nat) (cs : List Int) (fa fb : Nat) (ra rb rc : List Int) : Prop where
  m1 : machineOk K.m = true
  m2 : machineOk R.k.m = true
  ek : pageEntry K.m.ents kp = ⟨2, (fa : Int)⟩
  em : pageEntry K.m.ents mv = ⟨2, (fb : Int)⟩
  ca : K.m.f.cells[fa]? = some ra
  la : ra.length = 16
  cb : K.m.f.cells[fb]? = some rb
  lb : rb.length = 16
  ek2 : pageEntry R.k.m.ents kp = ⟨2, (fa : Int)⟩
  em2 : pageEntry R.k.m.ents mv = ⟨2, (fa : Int)⟩
  cc : R.k.m.f.cells[fa]? = some rc
  lc : rc.length = 16
  mt : mergedText kp mv cs ra rb = rc
  f1 : framesOk K.m.f = true
  f2 : framesOk R.k.m.f = true
  u1 : K.m.f.used.length ≤ 9999
  u2 : R.k.m.f.used.length ≤ 9999
  un : (usedN R.k.m.f : Int) = (usedN K.m.f : Int) - 1
  ub : usedN K.m.f ≤ 9999
theorem mok_frames {M : Mac} (h : MOk M) : framesOk M.f = true := (framesOk_iff _).2 ⟨h.n1, h.u1, h.row⟩
theorem runTo_nat {kp mv : Int} {cs : List Int} (m : Nat) (hm : m ≤ 200) (s : JS) : runTo kp mv cs (m : Int) s = runJ kp mv cs m s := by
  unfold runTo
  rw [between_iff.2 ⟨by omega, by omega⟩, if_pos rfl, Int.toNat_natCast]
theorem jobs_pack {K : Ker} {kp mv : Nat} {cs : List Int} (h : DInv K kp mv cs) (h1 : (pageEntry K.m.ents kp).m ≠ 0) (h2 : (pageEntry K.m.ents mv).m ≠ 0) :
    ∃ R, runTo kp mv cs 200 ⟨K, 0, 0⟩ = R ∧ kernelOk R.k = true ∧ ((R.ph = 5 ∧ R.k.m = K.m) ∨ (R.ph = 4 ∧ ∃ fa fb ra rb rc, JobsP K R kp mv cs fa fb ra rb rc)) := by
  obtain ⟨fa, fb, ra, rb, P⟩ := dinv_pair h h1 h2
  have hc := h.calls
  obtain ⟨n, calls, e1, e2, e3, e4⟩ := run_ends P h.c16 (dinv_ref h) hc
  have hr : runTo kp mv cs ((200 : Nat) : Int) ⟨K, 0, 0⟩ = runJ kp mv cs 200 ⟨K, 0, 0⟩ := runTo_nat 200 (by decide) _
  rw [show ((200 : Nat) : Int) = 200 from rfl] at hr
  rw [hr]
  generalize runJ kp mv cs 200 ⟨K, 0, 0⟩ = R at *
  obtain ⟨k, ph, nx⟩ := R
  dsimp only at *
  simp only [JS.mk.injEq] at e1
  obtain ⟨rfl, -, rfl⟩ := e1
  refine ⟨_, rfl, view_kok P ph n calls ⟨e3, by omega⟩, ?_⟩
  rcases e2 with rfl | ⟨rfl, rfl⟩
  · refine .inr ⟨rfl, fa, fb, ra, rb, copyRow rb ra cs, ?_⟩
    have hok := view_ok P 4 n calls
    have lc := (row_copy P cs.length).1
    rw [List.take_length] at lc
    have hu := done_used P n calls
    have b1 := P.ok.n1; have b2 := P.ok.u1; have b3 := hok.n1; have b4 := hok.u1
    have bu : usedN K.m.f ≤ K.m.f.used.length := by
      unfold usedN
      split
      · exact usedTo_le _ _
      · exact Nat.zero_le _
    refine ⟨(machineOk_iff _).2 P.ok, (machineOk_iff _).2 hok, pageEntry_at P.ek, pageEntry_at P.em, P.ha, P.la, P.hb, P.lb, view_ek P 4 n calls, view_em4 P n calls, ?_, lc, ?_, mok_frames P.ok, mok_frames hok, by omega, by dsimp only; omega, hu, by omega⟩
    · rw [view_4]
      dsimp only
      rw [List.getElem?_set_ne (fun e => P.nf e.symm), List.getElem?_set_self P.fa_lt]
    · unfold mergedText
      rw [P.plan, P.la, P.lb]; rfl
  · exact .inl ⟨rfl, view_m0 P 5 calls (by decide) rfl⟩
end Go.Proofs.Ytkkebpcclklmcaa
