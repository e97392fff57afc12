/-
  Texts put together: MachNew, MachNew2.
-/
import Derived.Test.YtkkebpcclklmcaaGB31
import Derived.Test.YtkkebpcclklmcaaGB24
import Derived.Test.YtkkebpcclklmcaaGB18
import Derived.Deep.RegionLaw
/-
  New frames, tables, machines, kernels, by the reference.
-/
set_option linter.unusedVariables false
set_option linter.unusedSimpArgs false
namespace Go.Proofs.Ytkkebpcclklmcaa
open Go.RowKit
theorem one_blkK {v : Value} {g : Nat} (h : g ∈ blocks [v]) : v.ownBlock = some g := by
  obtain ⟨x, hx, e⟩ := mem_blocks.1 h
  cases List.mem_singleton.1 hx
  exact e
theorem pinR {α : Type} {ES E B : Nat} {f : α → List Value} {W w2 : World} {r : Option Nat} {c : Value} {vs : List Value} {rows : List (List α)} (_ : W.grownBy w2 r) (h : OwnRows ES E f B W c vs rows) : OwnRows ES E f B W c vs rows := h
def NewF4 (w : World) (e : Ending) (w' : World) : Prop := ∃ y : FV, e = .returned (.tuple #[y.val, .bool true]) ∧ FOwn w.heap.size w' y ⟨List.replicate 4 (List.replicate 16 (0 : Int)), List.replicate 4 false⟩ ∧ Below w.heap.size w w'
set_option maxRecDepth 20000 in
set_option maxHeartbeats 3200000 in
theorem s_FramesNew (w : World) : Calls Try.prog 90 #[.int .i64 4] w (NewF4 w) := by
  have hbt : between 4 1 32 = true := by decide
  (have hall := all_nil w; go_enter Try.func90, Try.ntmps90)
  go_wp2_with ((go_at_call 47; ((refine (s_l01In _ _ _ true (by assumption) _).mono ?_)); rintro e w2 ⟨rfl, rfl⟩))
  go_loopw [5] (fun i wr => ∃ (k : Nat) (co' : Option Addr) (cc' : Nat) (us : List Value) (uo' : Option Addr) (uc' : Nat), k ≤ 4 ∧ i = .int .i64 k ∧ us.length = k ∧ OwnR (w.heap.size + 2) wr (.slice co' k cc') us (List.replicate k (List.replicate 16 (0 : Int))) ∧ OwnB (w.heap.size + 2) wr (.slice uo' k uc') (List.replicate k false) ∧ (blocks (.slice co' k cc' :: us)).Nodup ∧ (∀ g ∈ blocks [.slice uo' k uc'], g ∉ blocks (.slice co' k cc' :: us)) ∧ Below w.heap.size w wr ∧ BoxAt wr (w.heap.size) [.slice none 0 0, .slice none 0 0] ∧ BoxAt wr (w.heap.size + 1) [.slice co' k cc', .slice uo' k uc']) (fun i _ => 4 - (intOf i).toNat)
  case atStart =>
    refine ⟨0, none, 0, [], none, 0, Nat.zero_le _, rfl, rfl, ⟨Own.nil _ _ _ _ _, rfl, fun i v r hv => by simp at hv⟩, Own.nil _ _ _ _ _, nodup_one _, fun g hg => by simp [blocks, Value.ownBlock] at hg, by exact bel, ?_, ?_⟩
    · exact BoxAt.snoc (BoxAt.snoc (BoxAt.nil (by go_simp)) rfl (by go_simp) (by go_simp)) rfl (by go_simp) (by go_simp)
    · exact BoxAt.snoc (BoxAt.snoc (BoxAt.nil (by go_simp)) rfl (by go_simp) (by go_simp)) rfl (by go_simp) (by go_simp)
  case round =>
    obtain ⟨k, co', cc', us, uo', uc', hk, rfl, hul, hown, hou, hnd, hap, hbel, b0, b1⟩ := hrel
    obtain ⟨w1, rfl⟩ : ∃ x, x = wr := ⟨_, rfl⟩
    have HO := Lib.hid hown; have HU := Lib.hid hou; have HD := Lib.hid hnd; have AP := Lib.hid hap; have HB := Lib.hid hbel; have HUL := Lib.hid hul
    have hsz2 := hbel.size
    have k00 := (b0.cells 0 _ rfl).1; have f00 := (b0.cells 0 _ rfl).2; have k01 := (b0.cells 1 _ rfl).1; have f01 := (b0.cells 1 _ rfl).2
    have k10 := (b1.cells 0 _ rfl).1; have f10 := (b1.cells 0 _ rfl).2; have k11 := (b1.cells 1 _ rfl).1; have f11 := (b1.cells 1 _ rfl).2
    have x0 := b0.lt; have x1 := b1.lt
    clear hown hou hnd hap hbel b0 b1
    by_cases hlt : k < 4
    · have hlt' : (k : Int) < 4 := by omega
      have HH : Hid (∀ g', (.slice co' k cc' : Value).ownBlock = some g' → g' < w1.heap.size) := Lib.hid (fun g' hg' => (HO.out.out.lt g' hg').2)
      go_wp2
      go_region_law ((((refine step_append1 elemRow rfl _ _ rfl lenVal (by rfl) (xs := us) (v := .slice co' k cc') (B := w.heap.size + 2) (by exact Own.below HO.out.out (by exact bel)) (by exact zt) (by rfl) (.slice (some ⟨w1.heap.size, 0, none⟩) 16 16) (fun u hu => (by simp [fVal] at hu; subst hu; rfl)) (by intro j u hj; match j, hj with | 0, hj => (simp [fVal] at hj; subst hj; go_simp) | j + 1, hj => simp [fVal] at hj) (by simp only [maxLen]; omega) ?_; intro v3 w2 hown3 hgr3 hat3 hb; obtain ⟨v3o, v3c, hv3, -, -⟩ := hown3.shape; rw [List.length_append, List.length_singleton, HUL.out] at hv3; subst hv3; (have HN : Hid (OwnI (w1.heap.size) w2 (.slice (some ⟨w1.heap.size, 0, none⟩) 16 16) (List.replicate 16 (0 : Int))) := Lib.hid (Own.grownNe (by first | exact Own.below (Own.alloc (OwnI.zeros _ (by exact zt)) _) (Below.drew (Below.refl _ _)) | exact Own.alloc (OwnI.zeros _ (by exact zt)) _ | exact Own.alloc (Own.below (OwnI.zeros _ (by exact zt)) (Below.drew (Below.refl _ _))) _) hgr3 (fun g' hg' e => by have h1 : w1.heap.size = g' := Option.some.inj hg'; have h2 := HH.out g' e.symm; omega))); (have HOR := Lib.hid (pinR hgr3 (OwnRows.below HO.out (by exact bel)))); (have HU2 := Lib.hid (Own.touchs (Own.below HU.out (by exact bel)) (grown_touch1 hgr3) (fun g hg hm => AP.out g hg (blocks_sub (fun v hv => by cases List.mem_singleton.1 hv; exact List.mem_cons_self ..) g hm)))); have H3 := Lib.hid hown3; have HG3 := Lib.hid hgr3; have HA3 := Lib.hid hat3; have HB3 := Lib.hid hb; clear hown3 hgr3 hat3; obtain ⟨kwd_P_0, fwd_P_0, kwd_P_1, fwd_P_1⟩ := kf2 hb (w.heap.size) (.slice none 0 0) (.slice none 0 0); obtain ⟨kwd_O_0, fwd_O_0, kwd_O_1, fwd_O_1⟩ := kf2 hb (w.heap.size + 1) (.slice co' k cc') (.slice uo' k uc'); have xwd_P : w.heap.size < w2.heap.size := xc hb; have xwd_O : w.heap.size + 1 < w2.heap.size := xc hb; have hzwd := hb.size; (try simp only [World.size_alloc, World.size_setCell, World.size_drew] at hzwd); obtain ⟨wd, rfl⟩ : ∃ x, x = w2 := ⟨_, rfl⟩))))
      all_goals
        (have HAPR : Hid (∀ g ∈ blocks [(.slice uo' k uc' : Value)], g ∉ blocks ((.slice v3o (k + 1) v3c) :: (us ++ [(.slice (some ⟨w1.heap.size, 0, none⟩) 16 16)]))) := Lib.hid (fun g hg hm => by
          have hlt1 := (Own.lts HU.out g hg).2
          obtain ⟨v, hv, hvb⟩ := mem_blocks.1 hm
          rcases List.mem_cons.1 hv with rfl | hv
          · rcases HA3.out with e | e
            · exact AP.out g hg (mem_blocks.2 ⟨_, List.mem_cons_self .., e.symm.trans hvb⟩)
            · have e2 := Option.some.inj (e.symm.trans hvb)
              (try simp only [World.size_alloc, World.size_drew] at e2)
              omega
          · rcases List.mem_append.1 hv with hv | hv
            · exact AP.out g hg (mem_blocks.2 ⟨v, List.mem_cons_of_mem _ hv, hvb⟩)
            · cases List.mem_singleton.1 hv
              have e2 : w1.heap.size = g := Option.some.inj hvb
              omega))
        go_wp2_with ((at_builtin; refine wpList_append1 elemBool rfl _ _ rfl lenBool rfl (Own.alloc (Own.offb HU2.out (by omega) _) _) (by exact zt) rfl false (fun u hu => (by simp [fBool] at hu; subst hu; rfl)) (by intro j u hj; match j, hj with | 0, hj => (simp [fBool] at hj; subst hj; go_simp) | j + 1, hj => simp [fBool] at hj) (by simp only [List.length_replicate, maxLen]; omega) ?_; intro v4 w4 hown4 hgr4 hat4 hb4; obtain ⟨v4o, v4c, hv4, -, -⟩ := hown4.shape; rw [List.length_append, List.length_singleton, List.length_replicate] at hv4; subst hv4; have H4 := Lib.hid hown4; have HG4 := Lib.hid hgr4; have HA4 := Lib.hid hat4; have HB4 := Lib.hid hb4; (have hz4 := hb4.size); clear hown4 hgr4 hat4; (have hb := hb4); (obtain ⟨ke0, fe0⟩ : w4.cell? ⟨w.heap.size + 1, 0, none⟩ = some (.slice v3o (k + 1) v3c) ∧ w4.frozen? ⟨w.heap.size + 1, 0, none⟩ = false := ⟨kc hb (by exact zt) (by go_simp), fc hb (by exact zt) (by go_simp)⟩); (obtain ⟨ke1, fe1⟩ : w4.cell? ⟨w.heap.size + 1, 1, none⟩ = some (.slice uo' k uc') ∧ w4.frozen? ⟨w.heap.size + 1, 1, none⟩ = false := ⟨kc hb (by exact zt) (by go_simp), fc hb (by exact zt) (by go_simp)⟩); (obtain ⟨kp0, fp0, kp1, fp1⟩ : w4.cell? ⟨w.heap.size, 0, none⟩ = some (.slice none 0 0) ∧ w4.frozen? ⟨w.heap.size, 0, none⟩ = false ∧ w4.cell? ⟨w.heap.size, 1, none⟩ = some (.slice none 0 0) ∧ w4.frozen? ⟨w.heap.size, 1, none⟩ = false := ⟨kc hb (by exact zt) (by go_simp), fc hb (by exact zt) (by go_simp), kc hb (by exact zt) (by go_simp), fc hb (by exact zt) (by go_simp)⟩); (try simp only [World.size_alloc, World.size_setCell, World.size_drew] at hz4); clear hb hb4))
        have hB := HB.out; have hB3 := HB3.out; have hB4 := HB4.out
        have HBF : Hid (Below w.heap.size w w4) := Lib.hid (by exact bel)
        have ND := nodup_grow HD.out (nv := (.slice (some ⟨w1.heap.size, 0, none⟩) 16 16)) (fun g' hg' hm' => by have h1 : w1.heap.size = g' := Option.some.inj hg'; have h2 := (HO.out.lt g' hm').2; omega) HA3.out (fun g' hg' => by
          rw [blocks_append, List.mem_append] at hg'
          (try simp only [World.size_alloc, World.size_setCell, World.size_drew])
          rcases hg' with h5 | h5
          · have h2 := (HO.out.lt g' (blocks_sub (fun v hv => List.mem_cons_of_mem _ hv) g' h5)).2
            omega
          · have h2 := (Own.lts HN.out g' h5)
            have h3 : w1.heap.size = g' := Option.some.inj (one_blkK h5)
            omega)
        have S := OwnRows.snoc (E := 3) (f := fInt) (r := List.replicate 16 (0 : Int)) HOR.out HD.out H3.out HG3.out (Own.mono HN.out (by omega))
        rw [← List.replicate_succ'] at S
        have S2 := OwnRows.touch (OwnRows.below (OwnRows.offb S (b := w.heap.size + 1) (o := 0) (by omega) (.slice v3o (k + 1) v3c)) ((Below.refl _ _).alloc (Nat.le_refl _) (.cells #[.bool false] 4))) (grown_touch1 HG4.out) (fun g hg hm => HAPR.out g hm hg)
        go_roundw
        case rel =>
          refine ⟨k + 1, v3o, v3c, us ++ [(.slice (some ⟨w1.heap.size, 0, none⟩) 16 16)], v4o, v4c, by omega, by go_num, by simp [HUL.out], OwnRows.offb S2 (by omega) _, Own.offb (by rw [List.replicate_succ']; exact H4.out) (by omega) _, ND, ?_, by (have hBF := HBF.out; exact bel), ?_, ?_⟩
          · intro g hg hm
            rcases HA4.out with e | e
            · exact HAPR.out g (mem_one (e.symm.trans (one_blkK hg))) hm
            · have e2 := Option.some.inj (e.symm.trans (one_blkK hg))
              have h3 := (OwnRows.lt S g hm).2
              (try simp only [World.size_alloc, World.size_setCell, World.size_drew] at e2 h3)
              omega
          · exact BoxAt.snoc (BoxAt.snoc (BoxAt.nil (by simp only [World.size_setCell]; omega)) rfl (by go_simp) (by go_simp)) rfl (by go_simp) (by go_simp)
          · exact BoxAt.snoc (BoxAt.snoc (BoxAt.nil (by simp only [World.size_setCell]; omega)) rfl (by go_simp) (by go_simp)) rfl (by go_simp) (by go_simp)
        case measure => simp [intOf]; omega
    · have hlt' : ¬ (k : Int) < 4 := by omega
      obtain rfl : k = 4 := by omega
      go_wp2
      refine bodyPost_ret (v := .tuple #[.agg #[.slice co' 4 cc', .slice uo' 4 uc'], .bool true]) (by simp [results, Try.results90, go_sem, k00, k01, f00, f01, k10, k11, f10, f11]) rfl ?_
      exact ⟨⟨_, _, us⟩, rfl, ⟨(OwnRows.offb (OwnRows.offb HO.out (by omega) _) (by omega) _).mono (by omega), (Own.offb (Own.offb HU.out (by omega) _) (by omega) _).mono (by omega), nodup_blocks (l := [_]) (nodup_one _) HD.out (fun g hg hm => AP.out g hg hm)⟩, by (have hB := HB.out; exact bel)⟩

end Go.Proofs.Ytkkebpcclklmcaa
/-
  New tables, machines, kernels, by the reference.
-/
set_option linter.unusedVariables false
set_option linter.unusedSimpArgs false
namespace Go.Proofs.Ytkkebpcclklmcaa
open Go.RowKit
def NewT4 (w : World) (e : Ending) (w' : World) : Prop := ∃ v : Value, e = .returned (.tuple #[.agg #[v], .bool true]) ∧ OwnEnt w.heap.size w' v (List.replicate 4 ⟨0, 0⟩) ∧ Below w.heap.size w w'
theorem s_TableNew (w : World) : Calls Try.prog 91 #[.int .i64 4] w (NewT4 w) := by
  have hbt : between 4 1 32 = true := by decide
  (have hall := all_nil w; go_enter Try.func91, Try.ntmps91)
  go_wp2_with (first | (at_make; (refine make1 elemEnt rfl _ _ rfl zeroEnt .i64 .i64 4 rfl rfl (by omega) (by unfold maxLen; omega) ?_); intro v2 w2 hv hown hb; subst hv; (simp only [World.size_alloc] at hown); have OE := Lib.hid hown; have HB := Lib.hid hb; clear hown; have kwa_0_0 : w2.cell? ⟨w.heap.size, 0, none⟩ = some (.slice none 0 0) := kc hb; have fwa_0_0 : w2.frozen? ⟨w.heap.size, 0, none⟩ = false := fc hb; have xwa_0 : w.heap.size < w2.heap.size := xc hb; have hzwa := hb.size; (try simp only [World.size_alloc, World.size_setCell, World.size_drew] at hzwa); obtain ⟨wa, rfl⟩ : ∃ x, x = w2 := ⟨_, rfl⟩) | (go_at_call 47; (first | (refine (s_l01In _ _ _ true (by assumption) _).mono ?_) | (refine (s_l01In _ _ _ false (by assumption) _).mono ?_) | (refine (s_l01In _ _ _ _ rfl _).mono ?_)); rintro e w2 ⟨rfl, rfl⟩) | (with_reducible refine wp_region_grew2 (by kernel_rfl) (by kernel_rfl) ?_; intro w2 hb; (first | have hn := nw4 hb hall (by exact zo) | have hn := nw3 hb hall (by exact zo) | have hn := nw2 hb hall (by exact zo) | have hn := nw1 hb hall (by exact zo) | have hn := nw0 hb hall (by exact zo)); obtain ⟨hc, hf, hn, hc0⟩ := hn; replace hall := hn; clear hn; have hz := hb.size; (try simp only [World.size_alloc, World.size_setCell, World.size_drew] at hz); have hx := hall; (try simp only [allLt, and_true] at hx); obtain ⟨w1, rfl⟩ : ∃ x, x = w2 := ⟨_, rfl⟩; (repeat (go_big_quiet_step (first | (go_at_call 47; first | exact calls_same (s_l01In _ _ _ true (by assumption) _) | exact calls_same (s_l01In _ _ _ false (by assumption) _) | exact calls_same (s_l01In _ _ _ _ rfl _))))); refine wpQuiet_nil ?_; intro w2 hw'; have hb := grew_below hw'; clear hw'; (first | have hn := nw4 hb hall (by exact zo) | have hn := nw3 hb hall (by exact zo) | have hn := nw2 hb hall (by exact zo) | have hn := nw1 hb hall (by exact zo) | have hn := nw0 hb hall (by exact zo)); obtain ⟨hc, hf, hn, hc0⟩ := hn; replace hall := hn; clear hn; have hz := hb.size; (try simp only [World.size_alloc, World.size_setCell, World.size_drew] at hz); have hx := hall; (try simp only [allLt, and_true] at hx); obtain ⟨w1, rfl⟩ : ∃ x, x = w2 := ⟨_, rfl⟩))
  skip
  refine bodyPost_ret (v := .tuple #[.agg #[.slice (some ⟨w.heap.size + 1, 0, none⟩) 4 4], .bool true]) (by simp [results, Try.results91, go_sem, kwa_0_0, fwa_0_0, xwa_0]) rfl ?_
  exact ⟨_, rfl, by (have hm := Own.mono (B' := w.heap.size + 1) (OE.out) (by exact zt); refine Own.mono (B := w.heap.size + 1) ?_ (by exact zt); (repeat (first | with_reducible exact hm | (with_reducible refine Own.offb ?_ (by omega) _) | (with_reducible refine Own.below ?_ ((Below.refl _ _).alloc (Nat.le_refl _) _)) | (with_reducible refine Own.below ?_ (Below.drew (Below.refl _ _))) | (refine Own.below ?_ (by with_reducible assumption))))), by (have hB := HB.out; exact bel)⟩

def NewM4 (w : World) (e : Ending) (w' : World) : Prop := ∃ y : MV, e = .returned (.tuple #[y.val, .bool true]) ∧ MOwn w.heap.size w' y (newK 4 4 []).m ∧ Below w.heap.size w w'
set_option maxRecDepth 20000 in
theorem s_MachineNew (w : World) : Calls Try.prog 80 #[.int .i64 4, .int .i64 4] w (NewM4 w) := by
  (have hall := all_nil w; go_enter Try.func80, Try.ntmps80)
  go_wp2_with (first | (go_at_call 90; (refine (s_FramesNew _).mono ?_; rintro e w2 ⟨y, rfl, hyo, hb⟩; (obtain ⟨yco, ycc, yuo, yuc, yvs, rfl⟩ := FOwn.shapes hyo); (have OF : Hid (FOwn (w.heap.size + 1) w2 ⟨.slice yco yvs.length ycc, .slice yuo 4 yuc, yvs⟩ (newK 4 4 []).m.f) := Lib.hid (by (try simp only [World.size_alloc] at hyo); exact hyo)); have HB1 := Lib.hid hb; obtain ⟨kwa_0_0, fwa_0_0, kwa_0_1, fwa_0_1, kwa_0_2, fwa_0_2⟩ := kf3 hb (w.heap.size) (.slice none 0 0) (.slice none 0 0) (.slice none 0 0); have xwa_0 : w.heap.size < w2.heap.size := xc hb; have hzwa := hb.size; (try simp only [World.size_alloc, World.size_setCell, World.size_drew] at hzwa); clear hyo; simp only [FV.val, List.length_replicate]; obtain ⟨wa, rfl⟩ : ∃ x, x = w2 := ⟨_, rfl⟩)) | (go_at_call 91; (refine (s_TableNew _).mono ?_; rintro e w2 ⟨v9, rfl, hvo, hb⟩; (obtain ⟨vo, vc, rfl, -, -⟩ := hvo.shape); (have OT : Hid (OwnEnt (w.heap.size + 1) w2 (.slice vo 4 vc) (newK 4 4 []).m.ents) := Lib.hid (Own.mono hvo (by (try simp only [World.size_alloc]); omega))); (have LT : Hid (∀ g ∈ blocks [(.slice vo 4 vc : Value)], wa.heap.size ≤ g) := Lib.hid (fun g hg => by have h1 := (Own.lts hvo g hg).1; (try simp only [World.size_alloc] at h1); omega)); have HB2 := Lib.hid hb; obtain ⟨kwb_0_0, fwb_0_0, kwb_0_1, fwb_0_1, kwb_0_2, fwb_0_2⟩ := kf3 hb (w.heap.size) (.slice none 0 0) (.slice none 0 0) (.slice none 0 0); obtain ⟨kwb_F_0, kwb_F_1⟩ := kp2 hb (wa.heap.size) (.slice yco yvs.length ycc) (.slice yuo 4 yuc); have xwb_0 : w.heap.size < w2.heap.size := xc hb; have xwb_F : wa.heap.size < w2.heap.size := xc hb; have hzwb := hb.size; (try simp only [World.size_alloc, World.size_setCell, World.size_drew] at hzwb); clear hvo; (try simp only [List.length_replicate]); obtain ⟨wb, rfl⟩ : ∃ x, x = w2 := ⟨_, rfl⟩)) | (with_reducible refine wp_region_grew2 (by kernel_rfl) (by kernel_rfl) ?_; intro w2 hb; (first | have hn := nw4 hb hall (by exact zo) | have hn := nw3 hb hall (by exact zo) | have hn := nw2 hb hall (by exact zo) | have hn := nw1 hb hall (by exact zo) | have hn := nw0 hb hall (by exact zo)); obtain ⟨hc, hf, hn, hc0⟩ := hn; replace hall := hn; clear hn; have hz := hb.size; (try simp only [World.size_alloc, World.size_setCell, World.size_drew] at hz); have hx := hall; (try simp only [allLt, and_true] at hx); obtain ⟨w1, rfl⟩ : ∃ x, x = w2 := ⟨_, rfl⟩; (repeat (go_big_quiet_step (fail))); refine wpQuiet_nil ?_; intro w2 hw'; have hb := grew_below hw'; clear hw'; (first | have hn := nw4 hb hall (by exact zo) | have hn := nw3 hb hall (by exact zo) | have hn := nw2 hb hall (by exact zo) | have hn := nw1 hb hall (by exact zo) | have hn := nw0 hb hall (by exact zo)); obtain ⟨hc, hf, hn, hc0⟩ := hn; replace hall := hn; clear hn; have hz := hb.size; (try simp only [World.size_alloc, World.size_setCell, World.size_drew] at hz); have hx := hall; (try simp only [allLt, and_true] at hx); obtain ⟨w1, rfl⟩ : ∃ x, x = w2 := ⟨_, rfl⟩))
  refine bodyPost_ret (v := .tuple #[.agg #[.slice yco yvs.length ycc, .slice yuo 4 yuc, .slice vo 4 vc], .bool true]) (by simp [results, Try.results80, go_sem, kwb_0_0, fwb_0_0, kwb_0_1, fwb_0_1, kwb_0_2, fwb_0_2, xwb_0, kwb_F_0, kwb_F_1]) rfl ?_
  have hB1 := HB1.out; have hB2 := HB2.out
  refine ⟨⟨⟨_, _, yvs⟩, _⟩, rfl, ⟨by (have hm := FOwn.mono (B' := w.heap.size + 1) (OF.out) (by exact zt); refine FOwn.mono (B := w.heap.size + 1) ?_ (by exact zt); (repeat (first | with_reducible exact hm | (with_reducible refine FOwn.offb ?_ (by omega) _) | (with_reducible refine FOwn.below ?_ ((Below.refl _ _).alloc (Nat.le_refl _) _)) | (with_reducible refine FOwn.below ?_ (Below.drew (Below.refl _ _))) | (refine FOwn.below ?_ (by with_reducible assumption))))), by (have hm := Own.mono (B' := w.heap.size + 1) (OT.out) (by exact zt); refine Own.mono (B := w.heap.size + 1) ?_ (by exact zt); (repeat (first | with_reducible exact hm | (with_reducible refine Own.offb ?_ (by omega) _) | (with_reducible refine Own.below ?_ ((Below.refl _ _).alloc (Nat.le_refl _) _)) | (with_reducible refine Own.below ?_ (Below.drew (Below.refl _ _))) | (refine Own.below ?_ (by with_reducible assumption))))), ?_⟩, by exact bel⟩
  exact nodup_blocks (l := [_]) (nodup_one _) OF.out.nd (fun g hg hm => by have h1 := LT.out g hg; have h2 := (FOwn.lts OF.out g hm).2; omega)

end Go.Proofs.Ytkkebpcclklmcaa
