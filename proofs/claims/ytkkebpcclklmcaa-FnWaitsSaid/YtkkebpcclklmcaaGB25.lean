/-
  Texts put together: JobS, Run, JobI.
-/
import Derived.Test.YtkkebpcclklmcaaGB9
import Derived.Test.YtkkebpcclklmcaaGB12
import Derived.Test.YtkkebpcclklmcaaGB19
import Derived.Test.YtkkebpcclklmcaaGB20
import Derived.Test.YtkkebpcclklmcaaGB23
import Derived.Test.YtkkebpcclklmcaaGB24
import Derived.Deep.RegionHeld3
import Derived.Deep.DeepCutAuto
/-
  One step of a job: what it makes of a kernel and a job.
-/
set_option linter.unusedVariables false
set_option linter.unusedSimpArgs false
namespace Go.Proofs.Ytkkebpcclklmcaa
open Go.RowKit
def jobMay (K : Ker) (kp mv : Int) (cs : List Int) (ph nx : Int) : Bool := canCall K && jobOk kp mv cs ph nx && mappedB K.m.ents kp && mappedB K.m.ents mv && !((pageEntry K.m.ents kp).f == (pageEntry K.m.ents mv).f)
/-- What a step that is taken makes of the kernel, the phase, the next cell. -/
def stepK (K : Ker) (kp mv : Int) (cs : List Int) (ph nx : Int) : Ker :=
  if ph = 0 then kProtK K mv 1
  else if ph = 1 then (if nx = cs.length then K else kCopyK K mv kp [cs.getD nx.toNat 0])
  else if ph = 2 then kMapOnK K mv kp
  else if ph = 3 then (if 0 < nx then ⟨storeM K.m (kp * 16 + cs.getD (nx - 1).toNat 0) 0, K.calls, K.refuse⟩ else kProtK K mv 2)
  else K
def stepPh (K : Ker) (kp mv : Int) (cs : List Int) (ph nx : Int) : Int :=
  if ph = 0 then (if (canCall K && protB K mv 1) = true then 1 else 5)
  else if ph = 1 then (if nx = cs.length then 2 else 1)
  else if ph = 2 then (if (canCall K && onB K mv kp) = true then 4 else 3)
  else if ph = 3 then (if 0 < nx then 3 else if (canCall K && protB K mv 2) = true then 5 else 3)
  else ph
def stepNx (cs : List Int) (ph nx : Int) : Int :=
  if ph = 1 then (if nx = cs.length then nx else nx + 1)
  else if ph = 3 then (if 0 < nx then nx - 1 else nx)
  else nx
def jobK (K : Ker) (kp mv : Int) (cs : List Int) (ph nx : Int) : Ker := if jobMay K kp mv cs ph nx = true then stepK K kp mv cs ph nx else K
def jobPh (K : Ker) (kp mv : Int) (cs : List Int) (ph nx : Int) : Int := if jobMay K kp mv cs ph nx = true then stepPh K kp mv cs ph nx else ph
def jobNx (K : Ker) (kp mv : Int) (cs : List Int) (ph nx : Int) : Int := if jobMay K kp mv cs ph nx = true then stepNx cs ph nx else nx
def NewKJ (w : World) (K : Ker) (kp mv : Int) (cs : List Int) (ph nx : Int) (e : Ending) (w' : World) : Prop :=
  ∃ (y : KV) (v : Value), e = .returned (.tuple #[y.val K.calls, .agg #[.int .i64 kp, .int .i64 mv, v, .int .i64 ph, .int .i64 nx]]) ∧ KOwn w.heap.size w' y K ∧ OwnI w.heap.size w' v cs ∧ (∀ g ∈ blocks y.all, g ∉ blocks [v]) ∧ Below w.heap.size w w'
theorem kj_fin {w wl w' : World} {B B1 : Nat} {y : KV} {K : Ker} {v : Value} {cs : List Int} {S : List Nat} (hk : KOwn B wl y K) (hv : OwnI B1 wl v cs) (hB : w.heap.size ≤ B) (hB1 : w.heap.size ≤ B1) (ht : Touch S wl w')
    (hS1 : ∀ g ∈ blocks y.all, g ∉ S) (hS2 : ∀ g ∈ blocks [v], g ∉ S) (hd : ∀ g ∈ blocks y.all, g ∉ blocks [v]) (hbl : Below w.heap.size w wl) (hS : ∀ g ∈ S, w.heap.size ≤ g) :
    KOwn w.heap.size w' y K ∧ OwnI w.heap.size w' v cs ∧ (∀ g ∈ blocks y.all, g ∉ blocks [v]) ∧ Below w.heap.size w w' :=
  ⟨(hk.touch ht hS1).mono hB, (Own.touchs hv ht hS2).mono hB1, hd, hbl.trans (ht.toBelow hS hbl.size)⟩
theorem touch_drewT {S : List Nat} {w w' : World} (h : Touch S w w') : Touch S w w'.drew := h.trans (touch_of_below (Below.drew (Below.refl _ _)) S)
theorem touch_allocT {S : List Nat} {w w' : World} (o : Obj) (h : Touch S w w') : Touch S w (w'.alloc o) := h.trans (touch_of_below ((Below.refl _ _).alloc (Nat.le_refl _) o) S)
theorem wrapI64 (n : Int) : IntKind.i64.wrap n = wrap64 n := by rw [IntKind.wrap_i64]; unfold wrap64; rfl
theorem jobMay_parts {K : Ker} {kp mv : Int} {cs : List Int} {ph nx : Int} (h : jobMay K kp mv cs ph nx = true) : canCall K = true ∧ jobOk kp mv cs ph nx = true ∧ mappedB K.m.ents kp = true ∧ mappedB K.m.ents mv = true ∧ ((pageEntry K.m.ents kp).f == (pageEntry K.m.ents mv).f) = false ∧ (0 ≤ ph ∧ ph ≤ 5) ∧ (0 ≤ nx ∧ nx ≤ cs.length) ∧ (0 ≤ kp ∧ kp ≤ 31) ∧ (0 ≤ mv ∧ mv ≤ 31) ∧ plOk cs cs.length = true := by
  unfold jobMay at h
  simp only [Bool.and_eq_true, Bool.not_eq_true'] at h
  have hj := h.1.1.1.2
  unfold jobOk planOk at hj
  simp only [Bool.and_eq_true, between_iff] at hj
  exact ⟨h.1.1.1.1, h.1.1.1.2, h.1.1.2, h.1.2, h.2, hj.1.2, hj.2, hj.1.1.2.1.1, hj.1.1.2.1.2, hj.1.1.1⟩
theorem plOk_cell {cs : List Int} {n k : Nat} {x : Int} (h : plOk cs n = true) (hk : k < n) (hx : cs[k]? = some x) : 0 ≤ x ∧ x ≤ 15 := by
  have := allTo_iff.1 h k hk
  rw [getD_of hx] at this
  unfold cellOkP at this
  simp only [Bool.and_eq_true, between_iff] at this
  first | exact this.1 | exact this.2 | omega
theorem ints_one {w : World} {n c : Nat} {xs : List Int} {b o' : Nat} {k : Nat} {x : Int} (h : IntsAt w (.slice (some ⟨b, o', none⟩) n c) xs) (hx : xs[k]? = some x) (hc : n ≤ c) (c' : Nat) (h1 : 1 ≤ c') (h2 : c' ≤ maxLen) : IntsAt w (.slice (some ⟨b, o' + k, none⟩) 1 c') [x] := by
  obtain ⟨ao, cap, hv, hl, hm, hr⟩ := IntsAt.open h
  simp only [Value.slice.injEq] at hv
  obtain ⟨hao, -, -⟩ := hv
  subst hao
  refine ⟨some ⟨b, o' + k, none⟩, c', rfl, h1, h2, ?_⟩
  intro i y hy
  obtain rfl : i = 0 := by
    rcases Nat.eq_zero_or_pos i with h0 | h0
    · exact h0
    · rw [List.getElem?_eq_none (by simp; omega)] at hy; cases hy
  simp only [List.length_cons, List.length_nil, List.getElem?_cons_zero, Option.some.injEq] at hy
  subst hy
  obtain ⟨g, oo, hgo, hg, hcell⟩ := hr k x hx
  cases hgo
  refine ⟨_, _, rfl, hg, fun j u hj => ?_⟩
  obtain rfl : j = 0 := by
    rcases Nat.eq_zero_or_pos j with h0 | h0
    · exact h0
    · rw [List.getElem?_eq_none (by simp [fInt]; omega)] at hj; cases hj
  simp only [fInt, List.getElem?_cons_zero, Option.some.injEq] at hj
  subst hj
  simpa using hcell
end Go.Proofs.Ytkkebpcclklmcaa
/-
  Many steps of a job: what JobRun makes of a kernel and a job.
-/
set_option linter.unusedVariables false
set_option linter.unusedSimpArgs false
namespace Go.Proofs.Ytkkebpcclklmcaa
open Go.RowKit
/-! The number of cells does not grow under a step that is taken. -/
theorem lensTo_same (rows : List (List Int)) (i : Nat) (r : List Int) (h : r.length = (rows.getD i []).length) : ∀ k, lensTo (rows.set i r) k = lensTo rows k
  | 0 => rfl
  | k + 1 => by
    rw [lensTo, lensTo, lensTo_same rows i r h k]
    congr 1
    by_cases e : i = k
    · subst e
      rw [List.getD_eq_getElem?_getD, List.getElem?_set, if_pos rfl]
      split
      · exact h
      · rename_i hn
        rw [List.getD_eq_getElem?_getD, List.getElem?_eq_none (by omega)]
    · rw [List.getD_eq_getElem?_getD, List.getElem?_set, if_neg e, ← List.getD_eq_getElem?_getD]
theorem tot_same (rows : List (List Int)) (i : Nat) (r : List Int) (h : r.length = (rows.getD i []).length) : tot (rows.set i r) = tot rows := by
  unfold tot
  rw [List.length_set, lensTo_same rows i r h]
theorem szK_setEnt (K : Ker) (p : Int) (e : Ent) : szK (setEnt K p e) = szK K := by simp [setEnt, szK, szM, szF]
theorem szK_counted (K : Ker) : szK (countedK K) = szK K := rfl
theorem szK_withRow (K : Ker) (i : Nat) (r : List Int) (us : List Bool) (hu : us.length = K.m.f.used.length) (h : r.length = (K.m.f.cells.getD i []).length) : szK (withF K ⟨K.m.f.cells.set i r, us⟩) = szK K := by
  simp only [withF, szK, szM, szF, hu, List.length_set, tot_same _ i r h]
theorem szK_prot (K : Ker) (p mode : Int) : szK (kProtK K p mode) = szK K := by
  unfold kProtK
  split
  · split
    · rw [szK_setEnt, szK_counted]
    · rfl
  · rfl
theorem szK_store (K : Ker) (a v : Int) : szK ⟨storeM K.m a v, K.calls, K.refuse⟩ = szK K := by
  unfold storeM
  split
  · simp only [szK, szM, szF, List.length_set]
    rw [tot_same _ _ _ (by rw [List.length_set])]
  · rfl
theorem szK_drop {K : Ker} (h16 : ∀ i, i < K.m.f.cells.length → (K.m.f.cells.getD i []).length = 16) {fr : Int} : szK (dropK K fr) = szK K := by
  unfold dropK
  split
  · unfold dropF
    by_cases hl : fr.toNat < K.m.f.cells.length
    · exact szK_withRow K fr.toNat (List.replicate 16 0) _ (by simp) (by rw [List.length_replicate, h16 _ hl])
    · rw [List.set_eq_of_length_le (by omega)]
      simp [withF, szK, szM, szF]
  · rfl
theorem szK_mapOn (K : Ker) (p o : Int) : szK (kMapOnK K p o) = szK K := by
  unfold kMapOnK
  split
  · rename_i hc
    unfold mapOnS
    split
    · rw [szK_drop (K := setEnt (countedK K) p ⟨2, (pageEntry K.m.ents o).f⟩) (fun i hi => row16 hc hi), szK_setEnt, szK_counted]
    · rfl
  · rfl
theorem szK_copy (K : Ker) (a b : Int) (cs : List Int) : szK (kCopyK K a b cs) = szK K := by
  unfold kCopyK
  split
  · unfold copyS
    split
    · unfold copyF
      exact szK_withRow K _ _ _ rfl (copyRow_len _ _ _)
    · rfl
  · rfl
theorem szK_step (K : Ker) (kp mv : Int) (cs : List Int) (ph nx : Int) : szK (stepK K kp mv cs ph nx) = szK K := by
  unfold stepK
  split
  · exact szK_prot K mv 1
  split
  · split
    · rfl
    · exact szK_copy ..
  split
  · exact szK_mapOn ..
  split
  · split
    · exact szK_store ..
    · exact szK_prot ..
  · rfl
theorem szK_job (K : Ker) (kp mv : Int) (cs : List Int) (ph nx : Int) : szK (jobK K kp mv cs ph nx) = szK K := by
  unfold jobK
  split
  · exact szK_step ..
  · rfl
theorem szM_le {K : Ker} (h : szK K ≤ 1048576) : szM K.m ≤ 1048576 := by unfold szK at h; omega
theorem cntK_sz {K : Ker} (h : szK K ≤ 1048576) : cntK K ≤ 2097152 := by
  unfold szK szM szF at h
  unfold cntK cntM cntF
  omega
/-! Runs. -/
structure JS where
  k : Ker
  ph : Int
  nx : Int
def jsStep (kp mv : Int) (cs : List Int) (s : JS) : JS := ⟨jobK s.k kp mv cs s.ph s.nx, jobPh s.k kp mv cs s.ph s.nx, jobNx s.k kp mv cs s.ph s.nx⟩
def overB (ph : Int) : Bool := ph == 4 || ph == 5
def runJ (kp mv : Int) (cs : List Int) : Nat → JS → JS
  | 0, s => s
  | n + 1, s => if overB s.ph then s else runJ kp mv cs n (jsStep kp mv cs s)
def runTo (kp mv : Int) (cs : List Int) (most : Int) (s : JS) : JS := if between most 0 200 then runJ kp mv cs most.toNat s else s
section
variable {kp mv : Int} {cs : List Int} {s : JS}
theorem runJ_over (n : Nat) (h : overB s.ph = true) : runJ kp mv cs n s = s := by
  cases n with
  | zero => rfl
  | succ n => rw [runJ, if_pos h]
theorem runJ_next (n : Nat) (h : overB s.ph = false) : runJ kp mv cs (n + 1) s = runJ kp mv cs n (jsStep kp mv cs s) := by
  rw [runJ, h]; rfl
theorem jsStep_not (h : jobMay s.k kp mv cs s.ph s.nx = false) : jsStep kp mv cs s = s := by
  unfold jsStep jobK jobPh jobNx
  rw [h]; rfl
theorem jsStep_may (h : jobMay s.k kp mv cs s.ph s.nx = true) : jsStep kp mv cs s = ⟨stepK s.k kp mv cs s.ph s.nx, stepPh s.k kp mv cs s.ph s.nx, stepNx cs s.ph s.nx⟩ := by
  unfold jsStep jobK jobPh jobNx
  rw [h]; rfl
theorem runJ_not (n : Nat) (h : jobMay s.k kp mv cs s.ph s.nx = false) : runJ kp mv cs n s = s := by
  induction n with
  | zero => rfl
  | succ n ih => rw [runJ, jsStep_not h, ih]; split <;> rfl
theorem sz_jsStep : szK (jsStep kp mv cs s).k = szK s.k := szK_job ..
theorem sz_runJ (n : Nat) : ∀ s : JS, szK (runJ kp mv cs n s).k = szK s.k := by
  induction n with
  | zero => intro s; rfl
  | succ n ih =>
    intro s
    rw [runJ]
    split
    · rfl
    · rw [ih, sz_jsStep]
theorem sz_runTo (most : Int) : szK (runTo kp mv cs most s).k = szK s.k := by
  unfold runTo
  split
  · exact sz_runJ ..
  · rfl
end
end Go.Proofs.Ytkkebpcclklmcaa
/-
  One step of a job, the implementation: the copy of a job.
-/
set_option linter.unusedVariables false
set_option linter.unusedSimpArgs false
namespace Go.Proofs.Ytkkebpcclklmcaa
open Go.RowKit
theorem i_copyJob (kp mv : Int) (v : Value) (cs : List Int) (ph nx : Int) (hs : cs.length ≤ 1048576) (w : World) (ha : IntsAt w v cs) : Calls Try.prog 38 #[.agg #[.int .i64 kp, .int .i64 mv, v, .int .i64 ph, .int .i64 nx]] w (NewJ w kp mv cs ph nx) := by
  have HA := Lib.hid ha
  obtain ⟨ao, ca, rfl, _, _⟩ := ha.shape
  clear ha
  (have hall := all_nil w; go_enter Try.func38, Try.ntmps38)
  go_wp2_with (first | (go_at_call 46; (refine (i_copyPlan kp mv _ cs hs _ (HA.out.below (by exact bel))).mono ?_; rintro e w2 ⟨e', rfl, heo, hb⟩; obtain ⟨eo, ec, rfl, -, -⟩ := heo.shape; have OE := Lib.hid heo; have HB1 := Lib.hid hb; obtain ⟨kwa_0_0, fwa_0_0, kwa_0_1, fwa_0_1, kwa_0_2, fwa_0_2, kwa_0_3, fwa_0_3, kwa_0_4, fwa_0_4⟩ := kf5 hb (w.heap.size) (.int .i64 kp) (.int .i64 mv) (.slice ao cs.length ca) (.int .i64 ph) (.int .i64 nx); obtain ⟨kwa_1_0, fwa_1_0, kwa_1_1, fwa_1_1, kwa_1_2, fwa_1_2, kwa_1_3, fwa_1_3, kwa_1_4, fwa_1_4⟩ := kf5 hb (w.heap.size + 1) (.int .i64 0) (.int .i64 0) (.slice none 0 0) (.int .i64 0) (.int .i64 0); have xwa_0 : w.heap.size < w2.heap.size := xc hb; have xwa_1 : w.heap.size + 1 < w2.heap.size := xc hb; have hzwa := hb.size; (try simp only [World.size_alloc, World.size_setCell, World.size_drew] at hzwa); clear heo; obtain ⟨wa, rfl⟩ : ∃ x, x = w2 := ⟨_, rfl⟩)) | (with_reducible refine wp_region_grew2 (by kernel_rfl) (by kernel_rfl) ?_; intro w2 hb; (first | have hn := nw4 hb hall (by exact zo) | have hn := nw3 hb hall (by exact zo) | have hn := nw2 hb hall (by exact zo) | have hn := nw1 hb hall (by exact zo) | have hn := nw0 hb hall (by exact zo)); obtain ⟨hc, hf, hn, hc0⟩ := hn; replace hall := hn; clear hn; have hz := hb.size; (try simp only [World.size_alloc, World.size_setCell, World.size_drew] at hz); have hx := hall; (try simp only [allLt, and_true] at hx); obtain ⟨w1, rfl⟩ : ∃ x, x = w2 := ⟨_, rfl⟩; (repeat (go_big_quiet_step (fail))); refine wpQuiet_nil ?_; intro w2 hw'; have hb := grew_below hw'; clear hw'; (first | have hn := nw4 hb hall (by exact zo) | have hn := nw3 hb hall (by exact zo) | have hn := nw2 hb hall (by exact zo) | have hn := nw1 hb hall (by exact zo) | have hn := nw0 hb hall (by exact zo)); obtain ⟨hc, hf, hn, hc0⟩ := hn; replace hall := hn; clear hn; have hz := hb.size; (try simp only [World.size_alloc, World.size_setCell, World.size_drew] at hz); have hx := hall; (try simp only [allLt, and_true] at hx); obtain ⟨w1, rfl⟩ : ∃ x, x = w2 := ⟨_, rfl⟩))
  refine bodyPost_ret (v := .agg #[.int .i64 kp, .int .i64 mv, .slice eo cs.length ec, .int .i64 ph, .int .i64 nx]) (by simp [results, Try.results38, go_sem, kwa_0_0, fwa_0_0, kwa_0_1, fwa_0_1, kwa_0_2, fwa_0_2, kwa_0_3, fwa_0_3, kwa_0_4, fwa_0_4, xwa_0, kwa_1_0, fwa_1_0, kwa_1_1, fwa_1_1, kwa_1_2, fwa_1_2, kwa_1_3, fwa_1_3, kwa_1_4, fwa_1_4, xwa_1]) rfl ?_
  have hB1 := HB1.out
  exact ⟨_, rfl, by (have hm := Own.mono (B' := w.heap.size + 1 + 1) (OE.out) (by exact zt); refine Own.mono (B := w.heap.size + 1 + 1) ?_ (by exact zt); (repeat (first | with_reducible exact hm | (with_reducible refine Own.offb ?_ (by omega) _) | (with_reducible refine Own.below ?_ ((Below.refl _ _).alloc (Nat.le_refl _) _)) | (with_reducible refine Own.below ?_ (Below.drew (Below.refl _ _))) | (refine Own.below ?_ (by with_reducible assumption))))), by exact bel⟩

end Go.Proofs.Ytkkebpcclklmcaa
