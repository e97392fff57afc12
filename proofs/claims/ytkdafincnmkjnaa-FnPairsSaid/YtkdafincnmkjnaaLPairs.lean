/- 'laws.FnPairs' returns true, whatever the bytes: no condition. -/
import Derived.Test.YtkdafincnmkjnaaPairLaw
import Derived.Test.YtkdafincnmkjnaaBestI
import Derived.Deep.RegionHeld3
set_option linter.unusedVariables false
set_option linter.unusedSimpArgs false
namespace Go.Proofs.Ytkdafincnmkjnaa
open Go.Deep Go.ChangeShapes Go.WideShapes Go.ChangeAt Go.RowKit
set_option maxRecDepth 20000 in
set_option maxHeartbeats 3200000 in
theorem w_FnPairs (v : Value) (n : Nat) (w : World) (hv : BytesAt w.heap.size w v n) : Calls Try.prog 9 #[v] w fun e w' => e = .returned (.bool true) ∧ Below w.heap.size w w' := by
  have HV := Lib.hid hv; clear hv
  by_cases hbig : (1048576 : Int) < n
  · (have hall := all_nil w; go_enter Try.func9, Try.ntmps9)
    go_wp2_with (go_at_call 15; refine (l_big _ n _ HV.out).mono ?_; rintro e w1 ⟨rfl, rfl⟩)
    all_goals (go_ret; refine ⟨by simp_all [], ?_⟩; exact bel)
  · (have hall := all_nil w; go_enter Try.func9, Try.ntmps9)
    go_wp2_with (go_at_call 15; refine (l_big _ n _ HV.out).mono ?_; rintro e w1 ⟨rfl, rfl⟩)
    refine (s_DrawSpans _ n _ HV.out).mono ?_; rintro e w2 ⟨lv, xs, rfl, hl8, hown, hb⟩
    obtain ⟨vo, vc, rfl, hvc, hvm, -⟩ := hown.shape
    have HS := Lib.hid hown.at
    have HB := Lib.hid hb
    obtain ⟨w1, rfl⟩ : ∃ x, x = w2 := ⟨_, rfl⟩
    clear hown hvm hb
    go_wp2_with fail
    refine (s_DrawPlaces _ n _ (HV.out.grew HB.out)).mono ?_; rintro e w2 ⟨pv, ps, rfl, hown, hxl, hxs, hb⟩
    obtain ⟨pg, pc, rfl, hgB, hg, hcell⟩ := places_at hown hxl
    have p0 := hcell 0 (by omega)
    have p1 := hcell 1 (by omega)
    have b0 := places_in hxl hxs 0 (by omega)
    have b1 := places_in hxl hxs 1 (by omega)
    replace HS := Lib.hid (HS.out.below hb)
    replace HB := Lib.hid (HB.out.trans (hb.mono HB.out.size))
    clear hcell hxs hown hxl hb hgB
    generalize ps.getD 0 0 = seed at *
    generalize ps.getD 1 0 = p1v at *
    obtain ⟨w1, rfl⟩ : ∃ x, x = w2 := ⟨_, rfl⟩
    have c2 : between seed 0 1073741823 = true := between_iff.2 (by omega)
    have ht16 : between (p1v % 5) 0 16 = true := between_iff.2 (by omega)
    have hpg : pg < w1.heap.size := hg
    have hall : allLt [pg] w1.heap.size := ⟨hg, trivial⟩
    have hx := hall; simp only [allLt, and_true] at hx
    have INV := split_inv xs seed (p1v % 5)
    have la := INV.best (by omega)
    have gi := greedy_inv (xs := xs) (by omega)
    have lb := gi.best (by omega)
    have gh := greedy_half (xs := xs) (by omega)
    have HE := Lib.hid (edges_best (xs := xs) (by omega))
    have HNX := Lib.hid (fun h2 => split_seed (xs := xs) (seed := seed) (tries := p1v % 5) hl8 h2 c2 ht16)
    have HI := Lib.hid INV.ok; have HG := Lib.hid gi.ok
    have hlb := greedy_le xs
    have eb := eTo_le xs xs.length (by omega)
    have hmd : p1v.tmod 5 = p1v % 5 := Int.tmod_eq_emod_of_nonneg b1.1
    go_wp2_with fail
    go_region_held3 (fun w' => w'.cell? ⟨pg, 0, none⟩ = some (.int .i64 seed) ∧ w'.cell? ⟨pg, 1, none⟩ = some (.int .i64 p1v)) (first | (refine ⟨?_, ?_⟩ <;> (go_simp; done)) | go_keep) (first | (go_at_call 39; go_loud ((try rw [hmd]); (refine (i_SplitPairs _ xs seed (p1v % 5) _ (HS.out.below (by exact bel))).mono ?_; rintro e w2 ⟨av, rfl, hown, hb⟩; obtain ⟨ao, ac, rfl, -, -, -⟩ := hown.shape; have HOA := Lib.hid hown; have HQ := Lib.hid hb; clear hown; have kwq_pg_0 : w2.cell? ⟨pg, 0, none⟩ = some (.int .i64 seed) := kc hb; have kwq_pg_1 : w2.cell? ⟨pg, 1, none⟩ = some (.int .i64 p1v) := kc hb; have xwq_pg : pg < w2.heap.size := xc hb; have hzwq := hb.size; (try simp only [World.size_alloc, World.size_setCell, World.size_drew] at hzwq); obtain ⟨wq, rfl⟩ : ∃ x, x = w2 := ⟨_, rfl⟩))))
    have hB0 := HB.out; have hBs := hB0.size
    replace HB : Hid (Below w.heap.size w wq) := by (have hQ := HQ.out; exact bel)
    replace HS : Hid (SpansAt wq (.slice vo xs.length vc) xs) := by
      refine HS.out.below ?_
      (have hQ := HQ.out; exact bel)
    clear HQ hB0 hBs hx hall
    obtain ⟨w1, rfl⟩ : ∃ x, x = wq := ⟨_, rfl⟩
    have hx := xwq_pg
    obtain ⟨na, hna⟩ : ∃ x, x = (splitP xs seed (p1v % 5)).length := ⟨_, rfl⟩
    have HOAT := Lib.hid (Own.at HOA.out lenPr)
    rw [← hna] at la ⊢
    obtain ⟨nx, hnx⟩ : ∃ x, x = splitS xs seed (p1v % 5) := ⟨_, rfl⟩
    rw [← hnx] at HNX ⊢
    clear hnx
    have HNA := Lib.hid hna; clear hna
    go_wp2_with fail
    refine (i_GreedyPairs _ xs _ HS.out).mono ?_; rintro e w2 ⟨bv, rfl, hown, hb⟩
    obtain ⟨bo, bc, rfl, -, -, -⟩ := hown.shape
    replace HS := Lib.hid (HS.out.below hb)
    replace HB := Lib.hid (HB.out.trans (hb.mono HB.out.size))
    replace kwq_pg_0 := (hb.cell (p := ⟨pg, 0, none⟩) hx).trans kwq_pg_0
    replace HOAT := Lib.hid (SlAt.below HOAT.out hb)
    replace hx : pg < w2.heap.size := Nat.lt_of_lt_of_le hx hb.size
    have HOBT := Lib.hid (Own.at hown lenPr)
    obtain ⟨ng, hng⟩ : ∃ x, x = (greedy xs).length := ⟨_, rfl⟩
    rw [← hng] at lb gh hlb ⊢
    have HNG := Lib.hid hng
    clear hown hb hng kwq_pg_1
    obtain ⟨w1, rfl⟩ : ∃ x, x = w2 := ⟨_, rfl⟩
    go_wp2_with fail
    refine (i_BestPairs _ xs _ HS.out).mono ?_; rintro e w2 ⟨rfl, hb⟩
    replace HS := Lib.hid (HS.out.below hb)
    replace HB := Lib.hid (HB.out.trans (hb.mono HB.out.size))
    replace kwq_pg_0 := (hb.cell (p := ⟨pg, 0, none⟩) hx).trans kwq_pg_0
    replace HOAT := Lib.hid (SlAt.below HOAT.out hb)
    replace hx : pg < w2.heap.size := Nat.lt_of_lt_of_le hx hb.size
    replace HOBT := Lib.hid (SlAt.below HOBT.out hb)
    obtain ⟨nb, hnb⟩ : ∃ x, x = bestP xs := ⟨_, rfl⟩
    rw [← hnb] at la lb gh HE ⊢
    clear hb hnb
    obtain ⟨w1, rfl⟩ : ∃ x, x = w2 := ⟨_, rfl⟩
    go_wp2_with fail
    refine (i_MeshEdges _ xs (by omega) _ HS.out).mono ?_; rintro e w2 ⟨rfl, hb⟩
    replace HS := Lib.hid (HS.out.below hb)
    replace HB := Lib.hid (HB.out.trans (hb.mono HB.out.size))
    replace kwq_pg_0 := (hb.cell (p := ⟨pg, 0, none⟩) hx).trans kwq_pg_0
    replace HOAT := Lib.hid (SlAt.below HOAT.out hb)
    replace hx : pg < w2.heap.size := Nat.lt_of_lt_of_le hx hb.size
    replace HOBT := Lib.hid (SlAt.below HOBT.out hb)
    obtain ⟨ne, hne⟩ : ∃ x, x = eTo xs xs.length := ⟨_, rfl⟩
    rw [← hne] at HE eb ⊢
    clear hb hne
    obtain ⟨w1, rfl⟩ : ∃ x, x = w2 := ⟨_, rfl⟩
    have la' : (na : Int) ≤ nb := by omega
    have lb' : (ng : Int) ≤ nb := by omega
    have gh' : (nb : Int) ≤ 2 * (ng : Int) := by omega
    have hnb10 : (nb : Int) ≤ 2 * 256 := by omega
    have he := HE.out
    have hnx : 2 ≤ xs.length → (nx == seed) = false := fun h => by have := HNX.out h; simpa using this
    have hnx2 : ((xs.length : Nat) : Int) < 2 ∨ (nx != seed) = true := by
      rcases Nat.lt_or_ge xs.length 2 with h | h
      · left; omega
      · right; have := hnx h; simp only [bne, this, Bool.not_false]
    clear hnx
    replace HOAT : Hid (PrAt w1 (.slice ao na ac) (splitP xs seed (p1v % 5))) := by have h := HOAT.out; rw [← HNA.out] at h; exact h
    replace HOBT : Hid (PrAt w1 (.slice bo ng bc) (greedy xs)) := by have h := HOBT.out; rw [← HNG.out] at h; exact h
    rcases hnx2 with hnx2 | hnx2
    all_goals go_wp2_with (first | (go_at_call_of 31 (Value.slice ao na ac); go_loud (refine (i_PairsOk _ _ xs (splitP xs seed (p1v % 5)) _ (HS.out.below (by exact bel)) (SlAt.below HOAT.out (by exact bel))).mono ?_; rintro e w2 ⟨rfl, hb⟩; rw [HI.out]; have HQ1 := Lib.hid hb; have kwq_pg_0 : w2.cell? ⟨pg, 0, none⟩ = some (.int .i64 seed) := kc hb; have xwq_pg : pg < w2.heap.size := xc hb; have hzwq := hb.size; (try simp only [World.size_alloc, World.size_setCell, World.size_drew] at hzwq); obtain ⟨wq, rfl⟩ : ∃ x, x = w2 := ⟨_, rfl⟩)) | (go_at_call_of 31 (Value.slice bo ng bc); go_loud (refine (i_PairsOk _ _ xs (greedy xs) _ (HS.out.below (by have h1 := HQ1.out; exact bel)) (SlAt.below HOBT.out (by have h1 := HQ1.out; exact bel))).mono ?_; rintro e w2 ⟨rfl, hb⟩; rw [HG.out]; have HQ2 := Lib.hid hb; have kwr_pg_0 : w2.cell? ⟨pg, 0, none⟩ = some (.int .i64 seed) := kc hb; have xwr_pg : pg < w2.heap.size := xc hb; have hzwr := hb.size; (try simp only [World.size_alloc, World.size_setCell, World.size_drew] at hzwr); obtain ⟨wr, rfl⟩ : ∃ x, x = w2 := ⟨_, rfl⟩)))
    all_goals (have hB := HB.out; have hBs := hB.size; have h1 := HQ1.out; have h2 := HQ2.out)
    all_goals (go_ret; refine ⟨by simp_all [], ?_⟩; exact bel)
namespace fnPairs
set_option maxRecDepth 100000 in
theorem contract (H : Type) (enc : TypeId × Value → H) (W : World) (base : Nat) (args : Array Value) (ds gs : List (DataW H)) (before : List MemPlace)
    (hval : ∀ (j : Nat) t v, Try.f9.params[j]? = some t → args[j]? = some v → Value.okWide Try.prog W .any base t v)
    (hW : DataW.Whole enc Try.prog Try.f9.params.toList Rows.fnPairsSpec.vars false W args.toList ds gs before) :
    Calls Try.prog 9 args W fun e W' => ∃ v, e = .returned v ∧ Rows.fnPairsSpec.post enc Try.prog Try.f9 false true false false W args v W' := by
  have hW' := hW
  obtain ⟨p, q, hA0, hV, rfl, hfz, hnd⟩ := hW
  have hA : DataW.TrodAll enc Try.prog W 0 (fun _ => true) true Try.f9.params.toList args.toList ds p := hA0
  rw [Try.params9] at hA hval
  obtain ⟨v0, vs0, d0, ds0, p0, q0, hargs, rfl, rfl, h0, r0⟩ := trodAll_cons hA
  obtain ⟨rfl, rfl, rfl⟩ := trodAll_nil r0
  obtain rfl : args = #[v0] := by cases args; simp_all
  obtain ⟨rfl, rfl⟩ := trodVars_none hV
  obtain ⟨n, hv⟩ := bytes_open Try.underlying22 Try.underlying5 (by kernel_rfl) (hval 0 22 v0 rfl rfl) h0
  clear hA0
  refine (w_FnPairs v0 n W hv).mono fun e W' ⟨he, hg⟩ => ?_
  subst he
  exact ⟨_, rfl, law_post (tb := 4) laidOut (by kernel_rfl) rfl rfl Try.underlying4 hW' rfl rfl rfl hg⟩
set_option maxRecDepth 100000 in
theorem lifted (os : Os) (started : os.Started) (H : Type) (enc : TypeId × Value → H) :
    ReturnsInHanded {} Try.checked os 9 .any (Rows.fnPairsSpec.pre6 enc Try.prog Try.f9 Rows.fnPairsRow.domain false) (Rows.fnPairsSpec.post enc Try.prog Try.f9 false true false false) := by
  refine returnsInHanded_of_change (C := Try.checked) own started (by kernel_rfl) Try.func9
    (ChangeSpec.witness6 (enc := enc) (C := Try.checked) false ⟨#[], #[.slice none 0 0], []⟩ 8 (by kernel_rfl) (by kernel_rfl) (by kernel_rfl) (by kernel_rfl)) ?_
  intro W base args ds gs before hval hW _ _
  exact contract H enc W base args ds gs before hval hW
/-- The statement. -/
theorem proved : Rows.FnPairsSaid :=
  OpenClaim.holds_of_wide 9 Try.f9 rfl rfl rfl rfl rfl rfl rfl ⟨rfl, rfl, rfl, rfl, rfl⟩ rfl rfl rfl rfl rfl (by kernel_rfl) Try.func9 (by kernel_rfl)
    (of_decide_eq_true (by kernel_rfl)) (by unfold Func.isWrapper; first | (rw [if_pos (by decide +kernel)]; kernel_rfl) | (rw [if_neg (by decide +kernel)]; exact ⟨rfl, rfl⟩))
    (fun os started H enc _ => lifted os started H enc)
end fnPairs

end Go.Proofs.Ytkdafincnmkjnaa
