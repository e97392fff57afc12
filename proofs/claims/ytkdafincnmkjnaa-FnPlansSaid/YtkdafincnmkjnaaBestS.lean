/-
  The greatest number of pairs, by the reference.
-/
import Derived.Test.YtkdafincnmkjnaaMatch
import Derived.Test.YtkdafincnmkjnaaGreedyS
set_option linter.unusedVariables false
set_option linter.unusedSimpArgs false
namespace Go.Proofs.Ytkdafincnmkjnaa
open Go.RowKit
def uf (us : List Bool) : Nat → Bool := fun i => us.getD i false
theorem uf_set (us : List Bool) (k : Nat) (hk : k < us.length) : uf (us.set k true) = upd (uf us) k := by
  funext i
  unfold uf upd
  simp only [List.getD_eq_getElem?_getD, List.getElem?_set]
  by_cases h : k = i
  · subst h; rw [if_pos rfl, if_pos hk]; simp
  · rw [if_neg h]
    have : (i == k) = false := by simp; omega
    rw [this, Bool.or_false]
theorem bRow_le {r : Nat → Nat → Bool} {u : Nat → Bool} {f b : Nat} {G : (Nat → Bool) → Nat} (h : ∀ u, G u ≤ b) : ∀ m, bRow r u f G m ≤ b + 1
  | 0 => by rw [bRow]; have := h u; omega
  | m + 1 => by
    have ih := bRow_le (r := r) (u := u) (f := f) h m
    rw [bRow]; split
    · exact ih
    · have := h (upd u (f + 1 + m)); exact Nat.max_le.2 ⟨ih, by omega⟩
theorem bestM_le (r : Nat → Nat → Bool) (n : Nat) : ∀ d u, bestM r n d u ≤ d
  | 0, _ => Nat.le_refl _
  | d + 1, u => by
    rw [bestM]; split
    · have := bestM_le r n d u; omega
    · exact bRow_le (bestM_le r n d) d
def meshR (xs : List Sp) (a b : Nat) : Bool := meshS (xs.getD a default) (xs.getD b default)
set_option maxRecDepth 20000 in
set_option maxHeartbeats 3200000 in
theorem s_l11Best (xs : List Sp) (hx10 : xs.length ≤ 10) : ∀ (d : Nat) (va vb : Value) (us : List Bool) (f : Nat) (w : World), f + d = xs.length → us.length = xs.length → SpansAt w va xs → BoolsAt w vb us →
    Calls Try.prog 84 #[va, vb, .int .i64 f] w fun e w' => e = .returned (.int .i64 (bestM (meshR xs) xs.length d (uf us) : Nat)) ∧ Below w.heap.size w w' := by
  intro d
  induction d using Nat.strongRecOn with
  | ind d ih =>
  intro va vb us f w hfd hul ha hb
  obtain ⟨ao, ca, rfl, hn, hm, hra⟩ := ha.open
  have hle : xs.length ≤ 9223372036854775807 := by omega
  obtain ⟨bo, cb, rfl, hn2, hmb, hrb⟩ := BoolsAt.open hb
  have hb2 := hb; rw [hul] at hb2
  have HA := Lib.hid hra; have HU := Lib.hid hrb; have HSP := Lib.hid ha; have HBO := Lib.hid hb2; have HUL := Lib.hid hul; have IH := Lib.hid ih
  rw [hul] at hn2 ⊢
  clear hm hmb hra hrb ha hb hb2 ih hul
  (have hall := all_nil w; go_enter Try.func84, Try.ntmps84)
  go_wp2_with fail
  go_loopw [2] (fun i wr => ∃ c : Nat, c ≤ d ∧ i = .int .i64 ((xs.length - c : Nat) : Int) ∧ bestM (meshR xs) xs.length c (uf us) = bestM (meshR xs) xs.length d (uf us) ∧ Below w.heap.size w wr) (fun i _ => xs.length - (intOf i).toNat)
  case atStart => exact ⟨d, Nat.le_refl _, by rw [show xs.length - d = f by omega], rfl, Below.refl _ _⟩
  case round =>
    obtain ⟨c, hc, rfl, heq, hbel⟩ := hrel
    have HE := Lib.hid heq; have HL := Lib.hid hbel; have hsz := hbel.size
    clear heq hbel
    rcases Nat.eq_zero_or_pos c with h0 | hpos
    · subst h0
      have hlt' : ¬ ((xs.length - 0 : Nat) : Int) < (xs.length : Nat) := by omega
      have HZ := Lib.hid (show bestM (meshR xs) xs.length d (uf us) = 0 from HE.out.symm)
      rw [HZ.out]
      go_wp2_with fail
      go_ret
      exact ⟨by rw [HZ.out]; rfl, HL.out⟩
    · obtain ⟨m, rfl⟩ : ∃ m, c = m + 1 := ⟨c - 1, by omega⟩
      obtain ⟨fr, hfr⟩ : ∃ q, q = xs.length - (m + 1) := ⟨_, rfl⟩
      rw [← hfr]
      have hfr1 : fr + (m + 1) = xs.length := by omega
      have hfl : fr < xs.length := by omega
      have hfI : (fr : Int) < (xs.length : Nat) := by omega
      have HFR := Lib.hid hfr; clear hfr
      obtain ⟨b0, hb0⟩ := getx (xs := us) (k := fr) (by rw [HUL.out]; exact hfl)
      obtain ⟨gb, ob, hob, hgb, u0⟩ := HU.out fr b0 hb0
      subst hob
      replace u0 := (HL.out.cell (p := ⟨gb, ob + fr, none⟩) hgb).trans u0
      have hub : uf us fr = b0 := by unfold uf; rw [getD_of hb0]
      have HUB := Lib.hid hub
      clear hb0 hub
      obtain ⟨w1, rfl⟩ : ∃ x, x = wr := ⟨_, rfl⟩
      cases b0
      rotate_left
      · go_wp2_with fail
        go_roundw
        case rel => exact ⟨m, by omega, by rw [show xs.length - m = fr + 1 by omega]; go_num, by rw [← HE.out, bestM, ← HFR.out, HUB.out]; rfl, HL.out⟩
        case measure => simp [intOf]; omega
      · have hbe : bestM (meshR xs) xs.length d (uf us) = (bRow (meshR xs) (uf us) fr (bestM (meshR xs) xs.length m) m) := by rw [← HE.out, bestM, ← HFR.out, HUB.out]; rfl
        have HBE := Lib.hid hbe
        clear hbe HE
        have CALL := Lib.hid (fun vb us' w' h1 h2 h3 => IH.out m (by omega) (.slice ao xs.length ca) vb us' (fr + 1) w' (by omega) h1 h2 h3)
        have hfc : ((fr + 1 : Nat) : Int) = (fr : Int) + 1 := by omega
        rw [hfc] at CALL
        go_wp2_with (go_at_call 84; with_reducible refine (CALL.out _ us _ HUL.out (HSP.out.below HL.out) (SlAt.below HBO.out HL.out)).mono ?_; rintro e w2 ⟨rfl, hb⟩)
        have HL1 : Hid (Below w.heap.size w w2) := HL.out.trans (hb.mono hsz)
        clear hb u0 HL HFR HUB
        go_loopw [7, 8] (fun bv i wr => ∃ j k : Nat, j ≤ m ∧ k = fr + 1 + j ∧ i = .int .i64 (k : Int) ∧ bv = .int .i64 (((bRow (meshR xs) (uf us) fr (bestM (meshR xs) xs.length m) j) : Nat) : Int) ∧ Below w.heap.size w wr) (fun _ i _ => xs.length - (intOf i).toNat)
        case atStart => exact ⟨0, fr + 1, Nat.zero_le _, rfl, by go_num, rfl, HL1.out⟩
        case round =>
          obtain ⟨j, k, hj, hk, rfl, rfl, hbel⟩ := hrel
          have HL2 := Lib.hid hbel; have hsz2 := hbel.size; have HK := Lib.hid hk; have hka : k ≤ fr + 1 + j := Nat.le_of_eq hk; have hkb : fr + 1 + j ≤ k := Nat.le_of_eq hk.symm; clear hbel hsz hk
          obtain ⟨bst, hbst⟩ : ∃ q, q = (bRow (meshR xs) (uf us) fr (bestM (meshR xs) xs.length m) j) := ⟨_, rfl⟩
          rw [← hbst]
          have hbl : bst ≤ m + 1 := by rw [hbst]; exact bRow_le (fun u => bestM_le _ _ _ _) j
          have HBS := Lib.hid hbst; clear hbst
          by_cases hlt : j < m
          · have hkl : k < xs.length := by omega
            have hkI : (k : Int) < (xs.length : Nat) := by omega
            obtain ⟨bk, hbk⟩ := getx (xs := us) (k := k) (by rw [HUL.out]; exact hkl)
            obtain ⟨gb1, ob1, hob1, hgb1, u1⟩ := HU.out k bk hbk
            simp only [Option.some.injEq, Addr.mk.injEq, and_true] at hob1
            obtain ⟨rfl, rfl⟩ := hob1
            replace u1 := (HL2.out.cell (p := ⟨gb, ob + k, none⟩) hgb).trans u1
            have HUK : Hid (uf us (fr + 1 + j) = bk) := by unfold Hid uf; rw [← HK.out, getD_of hbk]
            clear hbk
            obtain ⟨gaa, oaa, haoaa, hgaa, aa0, aa1, aa2⟩ := HA.out fr hfl
            subst haoaa
            replace aa0 := (HL2.out.cell (p := ⟨gaa, oaa + fr * 3, none⟩) (by first | exact hgaa | assumption)).trans aa0
            replace aa1 := (HL2.out.cell (p := ⟨gaa, oaa + fr * 3 + 1, none⟩) (by first | exact hgaa | assumption)).trans aa1
            replace aa2 := (HL2.out.cell (p := ⟨gaa, oaa + fr * 3 + 2, none⟩) (by first | exact hgaa | assumption)).trans aa2
            obtain ⟨aa, heaa⟩ : ∃ x, x = xs.getD fr default := ⟨_, rfl⟩
            rw [← heaa] at aa0 aa1 aa2
            have Haa := Lib.hid heaa; clear heaa
            obtain ⟨gsb, osb, haosb, hgsb, sb0, sb1, sb2⟩ := HA.out k hkl
            (simp only [Option.some.injEq, Addr.mk.injEq, and_true] at haosb; obtain ⟨rfl, rfl⟩ := haosb)
            replace sb0 := (HL2.out.cell (p := ⟨gaa, oaa + k * 3, none⟩) (by first | exact hgsb | assumption)).trans sb0
            replace sb1 := (HL2.out.cell (p := ⟨gaa, oaa + k * 3 + 1, none⟩) (by first | exact hgsb | assumption)).trans sb1
            replace sb2 := (HL2.out.cell (p := ⟨gaa, oaa + k * 3 + 2, none⟩) (by first | exact hgsb | assumption)).trans sb2
            obtain ⟨sb, hesb⟩ : ∃ x, x = xs.getD k default := ⟨_, rfl⟩
            rw [← hesb] at sb0 sb1 sb2
            have Hsb := Lib.hid hesb; clear hesb
            have HRK : Hid ((meshR xs) fr (fr + 1 + j) = meshS aa sb) := by unfold Hid meshR; rw [Haa.out, Hsb.out, HK.out]
            (obtain ⟨w1, rfl⟩ : ∃ x, x = wr := ⟨_, rfl⟩; have hall : allLt [gb, gaa] w1.heap.size := ⟨by omega, by omega, trivial⟩; have hx := hall; (try simp only [allLt, and_true] at hx))
            have HB1 : Hid (BoolsAt w1 (.slice (some ⟨gb, ob, none⟩) xs.length cb) us) := SlAt.below HBO.out HL2.out
            have HSP1 : Hid (SpansAt w1 (.slice (some ⟨gaa, oaa, none⟩) xs.length ca) xs) := HSP.out.below HL2.out
            cases bk
            rotate_left
            · go_wp2_with (first | (with_reducible refine wp_region_grew2 (by kernel_rfl) (by kernel_rfl) ?_; intro w2 hb; have hb0 := hb; (first | have hn := nw4 hb hall (by exact zo) | have hn := nw3 hb hall (by exact zo) | have hn := nw2 hb hall (by exact zo) | have hn := nw1 hb hall (by exact zo) | have hn := nw0 hb hall (by exact zo)); obtain ⟨hc, hf, hn, hc0⟩ := hn; replace hall := hn; clear hn; have hz := hb.size; (try simp only [World.size_alloc, World.size_setCell, World.size_drew] at hz); have hx := hall; (try simp only [allLt, and_true] at hx); obtain ⟨w1, rfl⟩ : ∃ x, x = w2 := ⟨_, rfl⟩; skip; (repeat (go_big_quiet_step (fail))); refine wpQuiet_nil ?_; intro w2 hw'; have hb := grew_below hw'; clear hw'; (first | have hn := nw4 hb hall (by exact zo) | have hn := nw3 hb hall (by exact zo) | have hn := nw2 hb hall (by exact zo) | have hn := nw1 hb hall (by exact zo) | have hn := nw0 hb hall (by exact zo)); obtain ⟨hc, hf, hn, hc0⟩ := hn; replace hall := hn; clear hn; have hz := hb.size; (try simp only [World.size_alloc, World.size_setCell, World.size_drew] at hz); have hx := hall; (try simp only [allLt, and_true] at hx); obtain ⟨w1, rfl⟩ : ∃ x, x = w2 := ⟨_, rfl⟩) | (with_reducible refine wp_region_grew2 (by kernel_rfl) (by kernel_rfl) ?_; intro w2 hb; (first | have hn := nw4 hb hall (by exact zo) | have hn := nw3 hb hall (by exact zo) | have hn := nw2 hb hall (by exact zo) | have hn := nw1 hb hall (by exact zo) | have hn := nw0 hb hall (by exact zo)); obtain ⟨hc, hf, hn, hc0⟩ := hn; replace hall := hn; clear hn; have hz := hb.size; (try simp only [World.size_alloc, World.size_setCell, World.size_drew] at hz); have hx := hall; (try simp only [allLt, and_true] at hx); obtain ⟨w1, rfl⟩ : ∃ x, x = w2 := ⟨_, rfl⟩; (repeat (go_big_quiet_step (fail))); refine wpQuiet_nil ?_; intro w2 hw'; have hb := grew_below hw'; clear hw'; (first | have hn := nw4 hb hall (by exact zo) | have hn := nw3 hb hall (by exact zo) | have hn := nw2 hb hall (by exact zo) | have hn := nw1 hb hall (by exact zo) | have hn := nw0 hb hall (by exact zo)); obtain ⟨hc, hf, hn, hc0⟩ := hn; replace hall := hn; clear hn; have hz := hb.size; (try simp only [World.size_alloc, World.size_setCell, World.size_drew] at hz); have hx := hall; (try simp only [allLt, and_true] at hx); obtain ⟨w1, rfl⟩ : ∃ x, x = w2 := ⟨_, rfl⟩))
              go_roundw
              case rel => exact ⟨j + 1, k + 1, by omega, by omega, by go_num, by rw [HBS.out, bRow, if_pos]; rw [HUK.out]; rfl, by have hL := HL2.out; have hLs := hL.size; exact bel⟩
              case measure => simp [intOf]; omega
            cases hmm : meshS aa sb
            · have hm2 : meshable aa.p aa.c aa.b sb.p sb.c sb.b = false := hmm
              rw [hmm] at HRK
              go_wp2_with (first | (with_reducible refine wp_region_grew2 (by kernel_rfl) (by kernel_rfl) ?_; intro w2 hb; have hb0 := hb; (first | have hn := nw4 hb hall (by exact zo) | have hn := nw3 hb hall (by exact zo) | have hn := nw2 hb hall (by exact zo) | have hn := nw1 hb hall (by exact zo) | have hn := nw0 hb hall (by exact zo)); obtain ⟨hc, hf, hn, hc0⟩ := hn; replace hall := hn; clear hn; have hz := hb.size; (try simp only [World.size_alloc, World.size_setCell, World.size_drew] at hz); have hx := hall; (try simp only [allLt, and_true] at hx); obtain ⟨w1, rfl⟩ : ∃ x, x = w2 := ⟨_, rfl⟩; skip; (repeat (go_big_quiet_step ((first | (go_at_call 43; (exact calls_grew (s_Meshable _ _ _ _ _ _ _ hm2 _))))))); refine wpQuiet_nil ?_; intro w2 hw'; have hb := grew_below hw'; clear hw'; (first | have hn := nw4 hb hall (by exact zo) | have hn := nw3 hb hall (by exact zo) | have hn := nw2 hb hall (by exact zo) | have hn := nw1 hb hall (by exact zo) | have hn := nw0 hb hall (by exact zo)); obtain ⟨hc, hf, hn, hc0⟩ := hn; replace hall := hn; clear hn; have hz := hb.size; (try simp only [World.size_alloc, World.size_setCell, World.size_drew] at hz); have hx := hall; (try simp only [allLt, and_true] at hx); obtain ⟨w1, rfl⟩ : ∃ x, x = w2 := ⟨_, rfl⟩) | (with_reducible refine wp_region_grew2 (by kernel_rfl) (by kernel_rfl) ?_; intro w2 hb; (first | have hn := nw4 hb hall (by exact zo) | have hn := nw3 hb hall (by exact zo) | have hn := nw2 hb hall (by exact zo) | have hn := nw1 hb hall (by exact zo) | have hn := nw0 hb hall (by exact zo)); obtain ⟨hc, hf, hn, hc0⟩ := hn; replace hall := hn; clear hn; have hz := hb.size; (try simp only [World.size_alloc, World.size_setCell, World.size_drew] at hz); have hx := hall; (try simp only [allLt, and_true] at hx); obtain ⟨w1, rfl⟩ : ∃ x, x = w2 := ⟨_, rfl⟩; (repeat (go_big_quiet_step (fail))); refine wpQuiet_nil ?_; intro w2 hw'; have hb := grew_below hw'; clear hw'; (first | have hn := nw4 hb hall (by exact zo) | have hn := nw3 hb hall (by exact zo) | have hn := nw2 hb hall (by exact zo) | have hn := nw1 hb hall (by exact zo) | have hn := nw0 hb hall (by exact zo)); obtain ⟨hc, hf, hn, hc0⟩ := hn; replace hall := hn; clear hn; have hz := hb.size; (try simp only [World.size_alloc, World.size_setCell, World.size_drew] at hz); have hx := hall; (try simp only [allLt, and_true] at hx); obtain ⟨w1, rfl⟩ : ∃ x, x = w2 := ⟨_, rfl⟩))
              go_roundw
              case rel => exact ⟨j + 1, k + 1, by omega, by omega, by go_num, by rw [HBS.out, bRow, if_pos]; rw [HRK.out]; simp, by have hL := HL2.out; have hLs := hL.size; exact bel⟩
              case measure => simp [intOf]; omega
            · have hm2 : meshable aa.p aa.c aa.b sb.p sb.c sb.b = true := hmm
              rw [hmm] at HRK
              go_wp2_with (first | (with_reducible refine wp_region_grew2 (by kernel_rfl) (by kernel_rfl) ?_; intro w2 hb; have hb0 := hb; (first | have hn := nw4 hb hall (by exact zo) | have hn := nw3 hb hall (by exact zo) | have hn := nw2 hb hall (by exact zo) | have hn := nw1 hb hall (by exact zo) | have hn := nw0 hb hall (by exact zo)); obtain ⟨hc, hf, hn, hc0⟩ := hn; replace hall := hn; clear hn; have hz := hb.size; (try simp only [World.size_alloc, World.size_setCell, World.size_drew] at hz); have hx := hall; (try simp only [allLt, and_true] at hx); obtain ⟨w1, rfl⟩ : ∃ x, x = w2 := ⟨_, rfl⟩; skip; (repeat (go_big_quiet_step ((first | (go_at_call 43; (exact calls_grew (s_Meshable _ _ _ _ _ _ _ hm2 _))))))); refine wpQuiet_nil ?_; intro w2 hw'; have hb := grew_below hw'; clear hw'; (first | have hn := nw4 hb hall (by exact zo) | have hn := nw3 hb hall (by exact zo) | have hn := nw2 hb hall (by exact zo) | have hn := nw1 hb hall (by exact zo) | have hn := nw0 hb hall (by exact zo)); obtain ⟨hc, hf, hn, hc0⟩ := hn; replace hall := hn; clear hn; have hz := hb.size; (try simp only [World.size_alloc, World.size_setCell, World.size_drew] at hz); have hx := hall; (try simp only [allLt, and_true] at hx); obtain ⟨w1, rfl⟩ : ∃ x, x = w2 := ⟨_, rfl⟩) | (at_builtin; go_loud (refine wpList_appendAll elemBool rfl _ _ rfl lenBool oneBool rfl (Own.empty' _ _ _ w1.heap.size _ _ (by first | rfl | simp) (by exact zt)) (by exact zt) rfl (SlAt.below HB1.out (by exact bel)) (by have h9 := HUL.out; simp only [List.length_nil, maxLen]; omega) ?_; intro v2 w2 hown2 hgr2 hat2 hb; (try simp only [List.nil_append] at hown2); obtain ⟨v2o, v2c, rfl, -, -⟩ := hown2.shape; rw [HUL.out] at hown2; (try rw [HUL.out]); have hk2 : k < us.length := (by rw [HUL.out]; exact hkl); have OV := Lib.hid hown2; have HB2 := Lib.hid hb; obtain ⟨gv, gvc, hve, hgvB, hgv⟩ := Own.addr hown2 (by omega); simp only [Value.slice.injEq] at hve; obtain ⟨rfl, -, rfl⟩ := hve; obtain ⟨bk, hbk⟩ := getx (xs := us) (k := k) hk2; obtain ⟨-, xgv, v0, z0⟩ := OwnB.slotB hown2 hbk; clear hown2 hgr2 hat2 hbk hk2)) | (go_at_call 84; go_loud (with_reducible refine (CALL.out _ (us.set k true) _ (by rw [List.length_set]; exact HUL.out) (HSP1.out.below (by have hB2 := HB2.out; exact bel)) ((Own.set1 lenBool OV.out rfl k (.bool true) true rfl).1.at lenBool)).mono ?_; rintro e w3 ⟨rfl, hb⟩; rw [uf_set us k (by rw [HUL.out]; exact hkl)]; obtain ⟨q, hq⟩ : ∃ q, q = bestM (meshR xs) xs.length m (upd (uf us) k) := ⟨_, rfl⟩; rw [← hq]; have hq9 : q ≤ m := (by rw [hq]; exact bestM_le _ _ _ _); have HQ := Lib.hid hq; clear hq; have HB3 := Lib.hid hb; clear hb)) | (with_reducible refine wp_region_grew2 (by kernel_rfl) (by kernel_rfl) ?_; intro w2 hb; (first | have hn := nw4 hb hall (by exact zo) | have hn := nw3 hb hall (by exact zo) | have hn := nw2 hb hall (by exact zo) | have hn := nw1 hb hall (by exact zo) | have hn := nw0 hb hall (by exact zo)); obtain ⟨hc, hf, hn, hc0⟩ := hn; replace hall := hn; clear hn; have hz := hb.size; (try simp only [World.size_alloc, World.size_setCell, World.size_drew] at hz); have hx := hall; (try simp only [allLt, and_true] at hx); obtain ⟨w1, rfl⟩ : ∃ x, x = w2 := ⟨_, rfl⟩; (repeat (go_big_quiet_step (fail))); refine wpQuiet_nil ?_; intro w2 hw'; have hb := grew_below hw'; clear hw'; (first | have hn := nw4 hb hall (by exact zo) | have hn := nw3 hb hall (by exact zo) | have hn := nw2 hb hall (by exact zo) | have hn := nw1 hb hall (by exact zo) | have hn := nw0 hb hall (by exact zo)); obtain ⟨hc, hf, hn, hc0⟩ := hn; replace hall := hn; clear hn; have hz := hb.size; (try simp only [World.size_alloc, World.size_setCell, World.size_drew] at hz); have hx := hall; (try simp only [allLt, and_true] at hx); obtain ⟨w1, rfl⟩ : ∃ x, x = w2 := ⟨_, rfl⟩))
              go_roundw
              case rel => exact ⟨j + 1, k + 1, by omega, by omega, by go_num, by have e : (bRow (meshR xs) (uf us) fr (bestM (meshR xs) xs.length m) (j + 1)) = max bst (1 + q) := (by rw [bRow, if_neg (by rw [HUK.out, HRK.out]; simp), ← HK.out, ← HQ.out, ← HBS.out]); rw [e]; (first | (split <;> (congr 1; omega)) | (congr 1; split <;> omega) | (congr 1; omega)), by have hL := HL2.out; have hLs := hL.size; have hB2 := HB2.out; have hB3 := HB3.out; exact bel⟩
              case measure => simp [intOf]; omega
          · have hlt' : ¬ (k : Int) < (xs.length : Nat) := by omega
            obtain rfl : j = m := by omega
            go_wp2_with fail
            go_ret
            exact ⟨by rw [HBE.out, ← HBS.out]; rfl, HL2.out⟩

def bestP (xs : List Sp) : Nat := if 10 < xs.length then 0 else bestM (meshR xs) xs.length xs.length (uf (List.replicate xs.length false))
set_option maxHeartbeats 3200000 in
theorem s_BestPairs (va : Value) (xs : List Sp) (w : World) (ha : SpansAt w va xs) : Calls Try.prog 24 #[va] w fun e w' => e = .returned (.int .i64 (bestP xs : Nat)) ∧ Below w.heap.size w w' := by
  have HSP := Lib.hid ha
  obtain ⟨ao, ca, rfl, hn, hm, hra⟩ := ha.open
  have hle : xs.length ≤ 9223372036854775807 := by unfold maxLen at hm; omega
  clear hm hra ha
  unfold bestP
  by_cases h10 : 10 < xs.length
  · rw [if_pos h10]
    have h11 : (10 : Int) < xs.length := by omega
    (have hall := all_nil w; go_enter Try.func24, Try.ntmps24)
    go_wp2_with fail
    go_ret
    exact ⟨rfl, Below.refl _ _⟩
  · rw [if_neg h10]
    have h11 : ¬ (10 : Int) < xs.length := by omega
    (have hall := all_nil w; go_enter Try.func24, Try.ntmps24)
    go_wp2_with (first | (at_make; refine make1 elemBool rfl _ _ rfl zeroBool .i64 .i64 xs.length rfl rfl (by omega) (by unfold maxLen; omega) ?_; intro v2 w2 hv2 hown hb; subst hv2; have HU := Lib.hid hown; have HBU := Lib.hid hb; clear hown hb) | (go_at_call 84; go_loud (refine (s_l11Best xs (by omega) xs.length _ _ (List.replicate xs.length false) 0 _ (by omega) (List.length_replicate ..) (HSP.out.below (HBU.out.mono (Nat.le_refl _))) (HU.out.at lenBool)).mono ?_; rintro e w3 ⟨rfl, hb⟩)) | (with_reducible refine wp_region_grew2 (by kernel_rfl) (by kernel_rfl) ?_; intro w2 hb; (first | have hn := nw4 hb hall (by exact zo) | have hn := nw3 hb hall (by exact zo) | have hn := nw2 hb hall (by exact zo) | have hn := nw1 hb hall (by exact zo) | have hn := nw0 hb hall (by exact zo)); obtain ⟨hc, hf, hn, hc0⟩ := hn; replace hall := hn; clear hn; have hz := hb.size; (try simp only [World.size_alloc, World.size_setCell, World.size_drew] at hz); have hx := hall; (try simp only [allLt, and_true] at hx); obtain ⟨w1, rfl⟩ : ∃ x, x = w2 := ⟨_, rfl⟩; (repeat (go_big_quiet_step (fail))); refine wpQuiet_nil ?_; intro w2 hw'; have hb := grew_below hw'; clear hw'; (first | have hn := nw4 hb hall (by exact zo) | have hn := nw3 hb hall (by exact zo) | have hn := nw2 hb hall (by exact zo) | have hn := nw1 hb hall (by exact zo) | have hn := nw0 hb hall (by exact zo)); obtain ⟨hc, hf, hn, hc0⟩ := hn; replace hall := hn; clear hn; have hz := hb.size; (try simp only [World.size_alloc, World.size_setCell, World.size_drew] at hz); have hx := hall; (try simp only [allLt, and_true] at hx); obtain ⟨w1, rfl⟩ : ∃ x, x = w2 := ⟨_, rfl⟩))
    go_ret
    exact ⟨rfl, HBU.out.trans (hb.mono HBU.out.size)⟩

end Go.Proofs.Ytkdafincnmkjnaa
