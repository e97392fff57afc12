/-
  Texts put together: DrawK, OkLaw, OkLaw2.
-/
import Derived.Test.YtkkebpcclklmcaaGB30
import Derived.Test.YtkkebpcclklmcaaGB28
import Derived.Test.YtkkebpcclklmcaaGB18
import Derived.Test.YtkkebpcclklmcaaGB9
import Derived.Deep.RegionHeld3
import Derived.Test.YtkkebpcclklmcaaGB17
import Derived.Test.YtkkebpcclklmcaaGB23
import Derived.Test.YtkkebpcclklmcaaGB22
/-
  What a draw of a kernel calls: refused calls, a new page.
-/
set_option linter.unusedVariables false
set_option linter.unusedSimpArgs false
namespace Go.Proofs.Ytkkebpcclklmcaa
open Go.RowKit
theorem Own.grown {α : Type} {E k B : Nat} {f : α → List Value} {w w' : World} {v : Value} {xs : List α} {g : Nat} (h : Own E k f B w v xs) (hgr : w.grownBy w' (some g)) (hg : g < B) : Own E k f B w' v xs :=
  h.kept fun b hb => hgr.block b (h.lt b hb).2 (by have := (h.lt b hb).1; simp; omega)
theorem grown_belowW {w a b : World} {r : Option Nat} (h : w.grownBy a r) (k : Below w.heap.size a b) : w.grownBy b r :=
  ⟨k.os.trans h.os, k.tape.trans h.tape, k.output.trans h.output, Nat.le_trans h.size k.size, fun i hi hr => (k.block i hi).trans (h.block i hi hr)⟩
def DrawnRf (B : Nat) (w : World) (g : Nat) (e : Ending) (w' : World) : Prop := ∃ (v : Value) (xs : List Int), e = .returned v ∧ xs.length ≤ 3 ∧ (∀ x ∈ xs, 0 ≤ x ∧ x < 12) ∧ OwnI w.heap.size w' v xs ∧ Cur B w' g ∧ w.grownBy w' (some g)
theorem s_l08Refuse (B g : Nat) (w : World) (hcur : Cur B w g) : Calls Try.prog 58 #[.pointer (some ⟨g, 0, none⟩)] w (DrawnRf B w g) := by
  have hg := hcur.lt
  have hBg := hcur.1
  have hall := all_nil w
  go_enter Try.func58, Try.ntmps58
  go_wp2_with fail
  have hcur0 : Cur B (w.alloc (.cells #[] 3)) g := hcur.below ((Below.refl _ _).alloc (Nat.le_refl _) _)
  have hgr0 := World.grownBy_alloc w (.cells #[] 3) (some g)
  have HC := Lib.hid hcur0; have HG := Lib.hid hgr0
  clear hcur hcur0 hgr0
  go_loopw [3, 4] (fun o i wr => ∃ (vo : Option Addr) (vc : Nat) (xs : List Int), xs.length ≤ 3 ∧ i = .int .i64 (xs.length : Nat) ∧ o = .slice vo xs.length vc ∧ (∀ x ∈ xs, 0 ≤ x ∧ x < 12) ∧ OwnI w.heap.size wr (.slice vo xs.length vc) xs ∧ Cur B wr g ∧ w.grownBy wr (some g)) (fun _ i _ => 3 - (intOf i).toNat)
  case atStart => exact ⟨_, _, [], Nat.zero_le _, rfl, rfl, (by simp), Own.empty _ _ _ _ _ (Nat.le_refl _), HC.out, HG.out⟩
  case round =>
    clear HC HG
    obtain ⟨vo, vc, xs, hn, rfl, rfl, hxs, hown, hcr, hgr⟩ := hrel
    have HX := Lib.hid hxs
    clear hxs
    go_wp2_with fail
    refine (s_l01Below B g _ _ hcr).mono ?_; rintro e w3 ⟨x, hx, rfl, hcur3, hgr3⟩
    have hx1 := hx.2.1 (by omega)
    have hgrA := grown_trans hgr hgr3
    have hownA := hown.grown hgr3 hg
    have HGA := Lib.hid hgrA; have HOA := Lib.hid hownA; have HCA := Lib.hid hcur3
    clear hx hcr hgr hgr3 hown hgrA hownA hcur3
    by_cases hlt : (xs.length : Int) < x
    · have hn2 : xs.length < 3 := by omega
      go_wp2_with fail
      refine (s_l01Below B g _ _ HCA.out).mono ?_; rintro e w4 ⟨y, hy, rfl, hcur4, hgr4⟩
      have hy1 := hy.2.1 (by omega)
      have hy0 := hy.1
      have hgrB := grown_trans HGA.out hgr4
      have hownB := HOA.out.grown hgr4 hg
      have HGB := Lib.hid hgrB; have HOB := Lib.hid hownB; have HCB := Lib.hid hcur4
      clear HGA HOA HCA hgrB hownB hcur4 hgr4 hy
      have hsz := HGB.out.size
      go_wp2_with (at_builtin; refine append1 elemInt rfl _ _ rfl lenInt oneInt rfl (HOB.out.alloc _) (by simp only [World.size_alloc]; omega) rfl y (intCell _ _) (by unfold maxLen; omega) ?_; intro v2 w2 hown2 _ hb2; obtain ⟨vo2, vc2, rfl, -, -⟩ := hown2.shape; have OR := Lib.hid hown2; have HB2 := Lib.hid hb2; clear hown2 hb2)
      have hup : Below w.heap.size w4 (w4.alloc (.cells #[.int .i64 y] 3)) := (Below.refl _ _).alloc hsz _
      have hbl := hup.trans HB2.out
      go_roundw
      case rel => exact ⟨vo2, vc2, xs ++ [y], by simp; omega, by (rw [List.length_append]; go_num), by (rw [List.length_append]; rfl), fun z hz => by
        rcases List.mem_append.1 hz with h | h
        · exact HX.out z h
        · simp at h; subst h; omega, OR.out, HCB.out.stays hbl.size (fun k hk => hbl.block k (by omega)), grown_belowW HGB.out hbl⟩
      case measure => simp [intOf]; omega
    · go_wp2_with fail
      go_ret
      exact ⟨_, _, rfl, hn, HX.out, HOA.out, HCA.out, HGA.out⟩
end Go.Proofs.Ytkkebpcclklmcaa
/-
  When a machine is in order: plain facts on kernelOk for kernels that are changed at one place.
-/
set_option linter.unusedVariables false
set_option linter.unusedSimpArgs false
namespace Go.Proofs.Ytkkebpcclklmcaa
theorem onTo_pos (es : List Ent) (fr : Int) : ∀ n, 0 < (onTo es fr n).length ↔ ∃ i, i < n ∧ (es.getD i default).m ≠ 0 ∧ (es.getD i default).f = fr
  | 0 => by simp [onTo]
  | n + 1 => by
    rw [onTo, List.length_append]
    have ih := onTo_pos es fr n
    constructor
    · intro h
      by_cases h1 : 0 < (onTo es fr n).length
      · obtain ⟨i, hi, h2⟩ := ih.1 h1
        exact ⟨i, by omega, h2⟩
      · split at h
        · rename_i hc
          simp only [Bool.and_eq_true, bne_iff_ne, ne_eq, beq_iff_eq] at hc
          exact ⟨n, by omega, hc⟩
        · simp at h; simp [h] at h1
    · rintro ⟨i, hi, h1, h2⟩
      by_cases e : i = n
      · subst e
        have : ((es.getD i default).m != 0 && (es.getD i default).f == fr) = true := by rw [Bool.and_eq_true, bne_iff_ne, beq_iff_eq]; exact ⟨h1, h2⟩
        rw [if_pos this]; simp
      · have := ih.2 ⟨i, by omega, h1, h2⟩
        omega
theorem pagesOn_pos (es : List Ent) (fr : Int) : 0 < (pagesOn es fr).length ↔ ∃ (i : Nat) (e : Ent), es[i]? = some e ∧ e.m ≠ 0 ∧ e.f = fr := by
  unfold pagesOn
  rw [onTo_pos]
  constructor
  · rintro ⟨i, hi, h1, h2⟩
    refine ⟨i, es[i], List.getElem?_eq_getElem hi, ?_, ?_⟩
    · rwa [getD_of (List.getElem?_eq_getElem hi)] at h1
    · rwa [getD_of (List.getElem?_eq_getElem hi)] at h2
  · rintro ⟨i, e, hi, h1, h2⟩
    exact ⟨i, getx_lt hi, by rwa [getD_of hi], by rwa [getD_of hi]⟩
theorem pagesOn_nil {es : List Ent} {fr : Int} (h : ∀ (i : Nat) (e : Ent), es[i]? = some e → e.m ≠ 0 → e.f ≠ fr) : pagesOn es fr = [] := by
  rcases Nat.eq_zero_or_pos (pagesOn es fr).length with h0 | h0
  · exact List.length_eq_zero_iff.1 h0
  · obtain ⟨i, e, h1, h2, h3⟩ := (pagesOn_pos es fr).1 h0
    exact absurd h3 (h i e h1 h2)
/-- A machine in order, by its parts. -/
structure MOk (M : Mac) : Prop where
  n1 : 1 ≤ M.f.cells.length ∧ M.f.cells.length ≤ 32
  u1 : M.f.used.length = M.f.cells.length
  row : ∀ (i : Nat) (r : List Int) (u : Bool), M.f.cells[i]? = some r → M.f.used[i]? = some u → r.length = 16 ∧ ∀ (j : Nat) (x : Int), r[j]? = some x → 0 ≤ x ∧ x ≤ 999 ∧ (u = false → x = 0)
  e1 : 1 ≤ M.ents.length ∧ M.ents.length ≤ 32
  ent : ∀ (i : Nat) (e : Ent), M.ents[i]? = some e → 0 ≤ e.m ∧ e.m ≤ 2 ∧ 0 ≤ e.f ∧ (e.m = 0 → e.f = 0) ∧ (e.m ≠ 0 → e.f < M.f.used.length)
  use : ∀ (i : Nat) (u : Bool), M.f.used[i]? = some u → (u = true ↔ ∃ (k : Nat) (e : Ent), M.ents[k]? = some e ∧ e.m ≠ 0 ∧ e.f = i)
theorem rowOk_iff (r : List Int) (u : Bool) : rowOk r u = true ↔ r.length = 16 ∧ ∀ (j : Nat) (x : Int), r[j]? = some x → 0 ≤ x ∧ x ≤ 999 ∧ (u = false → x = 0) := by
  unfold rowOk
  rw [Bool.and_eq_true, beq_iff_eq, allTo_iff]
  constructor
  · rintro ⟨h16, h⟩
    refine ⟨h16, fun j x hx => ?_⟩
    have := h j (by have := getx_lt hx; omega)
    rw [getD_of hx, Bool.and_eq_true, between_iff, Bool.or_eq_true, beq_iff_eq] at this
    refine ⟨this.1.1, this.1.2, fun hu => ?_⟩
    subst hu
    simpa using this.2
  · rintro ⟨h16, h⟩
    refine ⟨h16, fun j hj => ?_⟩
    obtain ⟨x, hx⟩ := getx (xs := r) (k := j) (by omega)
    have := h j x hx
    rw [getD_of hx, Bool.and_eq_true, between_iff, Bool.or_eq_true, beq_iff_eq]
    refine ⟨⟨this.1, this.2.1⟩, ?_⟩
    cases u
    · exact .inl (this.2.2 rfl)
    · exact .inr rfl
theorem framesOk_iff (F : Frm) : framesOk F = true ↔ (1 ≤ F.cells.length ∧ F.cells.length ≤ 32) ∧ F.used.length = F.cells.length ∧ ∀ (i : Nat) (r : List Int) (u : Bool), F.cells[i]? = some r → F.used[i]? = some u → r.length = 16 ∧ ∀ (j : Nat) (x : Int), r[j]? = some x → 0 ≤ x ∧ x ≤ 999 ∧ (u = false → x = 0) := by
  unfold framesOk
  rw [Bool.and_eq_true, Bool.and_eq_true, between_iff, beq_iff_eq, allTo_iff]
  constructor
  · rintro ⟨⟨h1, h2⟩, h3⟩
    refine ⟨by omega, h2, fun i r u hr hu => ?_⟩
    have := h3 i (getx_lt hr)
    rw [getD_of hr, getD_of hu] at this
    exact (rowOk_iff r u).1 this
  · rintro ⟨h1, h2, h3⟩
    refine ⟨⟨by omega, h2⟩, fun i hi => ?_⟩
    obtain ⟨r, hr⟩ := getx (xs := F.cells) hi
    obtain ⟨u, hu⟩ := getx (xs := F.used) (k := i) (by omega)
    rw [getD_of hr, getD_of hu]
    exact (rowOk_iff r u).2 (h3 i r u hr hu)
theorem entOk_iff (e : Ent) (n : Nat) : entOk e n = true ↔ 0 ≤ e.m ∧ e.m ≤ 2 ∧ 0 ≤ e.f ∧ (e.m = 0 → e.f = 0) ∧ (e.m ≠ 0 → e.f < n) := by
  unfold entOk
  simp only [Bool.and_eq_true, between_iff, decide_eq_true_eq, Bool.not_eq_true', Bool.and_eq_false_iff, beq_eq_false_iff_ne, bne_eq_false_iff_eq, decide_eq_false_iff_not, ne_eq]
  constructor
  · rintro ⟨⟨⟨h1, h2⟩, h3⟩, h4⟩
    refine ⟨h1.1, h1.2, h2, fun h => ?_, fun h => ?_⟩
    · rcases h3 with h3 | h3
      · exact absurd h h3
      · exact h3
    · rcases h4 with h4 | h4
      · exact absurd h4 h
      · omega
  · rintro ⟨h1, h2, h3, h4, h5⟩
    refine ⟨⟨⟨⟨h1, h2⟩, h3⟩, ?_⟩, ?_⟩
    · by_cases h : e.m = 0
      · exact .inr (h4 h)
      · exact .inl h
    · by_cases h : e.m = 0
      · exact .inl h
      · exact .inr (by have := h5 h; omega)
theorem tableOk_iff (es : List Ent) (n : Nat) : tableOk es n = true ↔ (1 ≤ es.length ∧ es.length ≤ 32) ∧ ∀ (i : Nat) (e : Ent), es[i]? = some e → 0 ≤ e.m ∧ e.m ≤ 2 ∧ 0 ≤ e.f ∧ (e.m = 0 → e.f = 0) ∧ (e.m ≠ 0 → e.f < n) := by
  unfold tableOk
  rw [Bool.and_eq_true, between_iff, allTo_iff]
  constructor
  · rintro ⟨h1, h2⟩
    refine ⟨by omega, fun i e hi => ?_⟩
    have := h1 i (getx_lt hi)
    rw [getD_of hi] at this
    exact (entOk_iff e n).1 this
  · rintro ⟨h1, h2⟩
    refine ⟨fun i hi => ?_, by omega⟩
    obtain ⟨e, he⟩ := getx hi
    rw [getD_of he]
    exact (entOk_iff e n).2 (h2 i e he)
theorem machineOk_iff (M : Mac) : machineOk M = true ↔ MOk M := by
  unfold machineOk
  rw [Bool.and_eq_true, Bool.and_eq_true, framesOk_iff, tableOk_iff, allTo_iff]
  constructor
  · rintro ⟨⟨⟨h1, h2, h3⟩, h4, h5⟩, h6⟩
    refine ⟨h1, h2, h3, h4, h5, fun i u hu => ?_⟩
    have := h6 i (getx_lt hu)
    unfold usedOk at this
    rw [getD_of hu, beq_iff_eq] at this
    rw [← pagesOn_pos, this, decide_eq_true_eq]
    omega
  · rintro ⟨h1, h2, h3, h4, h5, h6⟩
    refine ⟨⟨⟨h1, h2, h3⟩, h4, h5⟩, fun i hi => ?_⟩
    obtain ⟨u, hu⟩ := getx hi
    unfold usedOk
    rw [getD_of hu, beq_iff_eq]
    have h := h6 i u hu
    rw [← pagesOn_pos] at h
    cases u
    · symm
      rw [decide_eq_false_iff_not]
      intro h0
      exact absurd (h.2 (by omega)) (by simp)
    · symm
      rw [decide_eq_true_eq]
      have := h.1 rfl
      omega
theorem kernelOk_iff (K : Ker) : kernelOk K = true ↔ (∀ x ∈ K.refuse, 0 ≤ x) ∧ (0 ≤ K.calls ∧ K.calls ≤ 100000) ∧ K.refuse.length ≤ 40 ∧ MOk K.m := by
  unfold kernelOk
  rw [Bool.and_eq_true, Bool.and_eq_true, Bool.and_eq_true, allTo_iff, between_iff, decide_eq_true_eq, machineOk_iff]
  constructor
  · rintro ⟨⟨⟨h1, h2⟩, h3⟩, h4⟩
    refine ⟨fun x hx => ?_, h2, by omega, h4⟩
    obtain ⟨i, hi⟩ := List.getElem?_of_mem hx
    have := h1 i (getx_lt hi)
    rw [getD_of hi] at this
    simpa using this
  · rintro ⟨h1, h2, h3, h4⟩
    refine ⟨⟨⟨fun i hi => ?_, h2⟩, by omega⟩, h4⟩
    obtain ⟨x, hx⟩ := getx hi
    rw [getD_of hx]
    simpa using h1 x (List.mem_of_getElem? hx)
theorem canCall_iff (K : Ker) : canCall K = true ↔ kernelOk K = true ∧ K.calls ≠ 100000 := by
  unfold canCall
  rw [Bool.and_eq_true, bne_iff_ne, and_comm]
theorem pageEntry_at {es : List Ent} {k : Nat} {e : Ent} (h : es[k]? = some e) : pageEntry es k = e := by
  have hl := getx_lt h
  unfold pageEntry
  rw [if_pos (between_iff.2 ⟨by omega, by omega⟩), Int.toNat_natCast, getD_of h]
theorem pageEntry_m {es : List Ent} {p : Int} (h : (pageEntry es p).m ≠ 0) : ∃ k : Nat, p = k ∧ es[k]? = some (pageEntry es p) := by
  unfold pageEntry at h ⊢
  split at h
  · rename_i hb
    rw [if_pos hb]
    rw [between_iff] at hb
    obtain ⟨k, rfl⟩ := Int.eq_ofNat_of_zero_le hb.1
    obtain ⟨e, he⟩ := getx (xs := es) (k := k) (by omega)
    exact ⟨k, rfl, by rw [Int.toNat_natCast, getD_of he]; exact he⟩
  · exact absurd rfl h
end Go.Proofs.Ytkkebpcclklmcaa
/-
  Plain facts on machines in order that change at one place: rows, stores, loads, a page that is mapped.
-/
set_option linter.unusedVariables false
set_option linter.unusedSimpArgs false
namespace Go.Proofs.Ytkkebpcclklmcaa
theorem getElem?_set_cases {α : Type} {l : List α} {i j : Nat} {a b : α} (h : (l.set i a)[j]? = some b) : (j = i ∧ b = a) ∨ (j ≠ i ∧ l[j]? = some b) := by
  rw [List.getElem?_set] at h
  split at h
  · rename_i e
    split at h
    · cases h; exact .inl ⟨e.symm, rfl⟩
    · cases h
  · rename_i e
    exact .inr ⟨fun x => e x.symm, h⟩
theorem load_parts {M : Mac} {p i : Nat} {em : Int} {f : Nat} (hi : i < 16) (hok : MOk M) (he : pageEntry M.ents p = ⟨em, f⟩) (hem : em ≠ 0) : loadV M (16 * (p : Int) + i) = (M.f.cells.getD f []).getD i 0 ∧ loadF M (16 * (p : Int) + i) = 0 := by
  have d1 : (16 * (p : Int) + i) / 16 = p := by omega
  have d2 : (16 * (p : Int) + i) % 16 = i := by omega
  have hl : loadOkB M (16 * (p : Int) + i) = true := by
    unfold loadOkB mappedB
    rw [(machineOk_iff _).2 hok, d1, he, decide_eq_true (by omega)]
    simpa using hem
  unfold loadV loadF
  rw [hl, if_pos rfl, if_pos rfl, d1, d2, he]
  exact ⟨by simp, rfl⟩
def setC (M : Mac) (f i : Nat) (v : Int) : Mac := ⟨⟨M.f.cells.set f ((M.f.cells.getD f []).set i v), M.f.used⟩, M.ents⟩
theorem setC_ok {M : Mac} (h : MOk M) {f i : Nat} {v : Int} (hu : M.f.used[f]? = some true) (hv : 0 ≤ v ∧ v ≤ 999) : MOk (setC M f i v) := by
  unfold setC
  refine ⟨by simpa using h.n1, by simpa using h.u1, ?_, h.e1, h.ent, h.use⟩
  intro k r u hr hk
  dsimp only at hr hk
  rcases getElem?_set_cases hr with ⟨rfl, rfl⟩ | ⟨_, hr⟩
  · obtain ⟨r0, hr0⟩ := getx (xs := M.f.cells) (k := k) (by have := getx_lt hr; rwa [List.length_set] at this)
    rw [getD_of hr0]
    have h1 := h.row k r0 u hr0 hk
    refine ⟨by rw [List.length_set]; exact h1.1, fun j x hx => ?_⟩
    rw [hu] at hk; cases hk
    rcases getElem?_set_cases hx with ⟨_, rfl⟩ | ⟨_, hx⟩
    · exact ⟨hv.1, hv.2, fun hf => by cases hf⟩
    · exact h1.2 j x hx
  · exact h.row k r u hr hk
theorem store_parts {M : Mac} {p i : Nat} {em : Int} {f : Nat} {v : Int} (hi : i < 16) (hok : MOk M) (he : pageEntry M.ents p = ⟨em, f⟩) (hem : em ≠ 0) (hv : 0 ≤ v ∧ v ≤ 999) :
    storeF M ((p : Int) * 16 + i) v = (if em = 1 then 2 else 0) ∧ (em ≠ 1 → storeM M ((p : Int) * 16 + i) v = setC M f i v) := by
  have d1 : ((p : Int) * 16 + i) / 16 = p := by omega
  have d2 : ((p : Int) * 16 + i) % 16 = i := by omega
  have hl : loadOkB M ((p : Int) * 16 + i) = true := by
    unfold loadOkB mappedB
    rw [(machineOk_iff _).2 hok, d1, he, decide_eq_true (by omega)]
    simpa using hem
  have hF : storeF M ((p : Int) * 16 + i) v = (if em = 1 then 2 else 0) := by
    have hA : entA M ((p : Int) * 16 + i) = ⟨em, f⟩ := by
      unfold entA
      rw [if_neg (by omega), d1, he]
    unfold storeF
    rw [if_pos hl, hA, between_iff.2 hv]
    by_cases h1 : em = 1
    · rw [if_pos h1, if_pos (by simpa using h1)]
    · rw [if_neg h1, if_neg (by simpa using h1)]; rfl
  refine ⟨hF, fun h1 => ?_⟩
  unfold storeM
  rw [hF, if_neg h1, if_pos (by rfl), d1, d2, he]
  simp only [setC, Int.toNat_natCast]
theorem getD_set_ne {r : List Int} {i j : Nat} {v : Int} (h : i ≠ j) : (r.set i v).getD j 0 = r.getD j 0 := by
  rw [List.getD_eq_getElem?_getD, List.getElem?_set_ne h, ← List.getD_eq_getElem?_getD]
theorem getD_set_self {r : List Int} {i : Nat} {v : Int} (h : i < r.length) : (r.set i v).getD i 0 = v := by
  rw [List.getD_eq_getElem?_getD, List.getElem?_set_self h]; rfl
/-- A store keeps a machine in order. -/
theorem store_ok {M : Mac} (h : MOk M) (a v : Int) : MOk (storeM M a v) := by
  unfold storeM
  split
  · rename_i h0
    rw [beq_iff_eq] at h0
    unfold storeF at h0
    split at h0
    · rename_i hl
      unfold loadOkB mappedB at hl
      simp only [Bool.and_eq_true, decide_eq_true_eq, bne_iff_ne, ne_eq] at hl
      obtain ⟨k, hk, hke⟩ := pageEntry_m hl.2
      have he := h.ent k _ hke
      have hf := he.2.2.2.2 hl.2
      obtain ⟨f, hf0⟩ := Int.eq_ofNat_of_zero_le he.2.2.1
      rw [hf0] at hf ⊢
      obtain ⟨u, hu⟩ := getx (xs := M.f.used) (k := f) (by omega)
      have hut : u = true := (h.use f u hu).2 ⟨k, _, hke, hl.2, hf0⟩
      subst hut
      have hv : 0 ≤ v ∧ v ≤ 999 := by
        split at h0
        · simp at h0
        · split at h0
          · rename_i hb; exact between_iff.1 hb
          · simp at h0
      rw [Int.toNat_natCast]
      exact setC_ok h hu hv
    · simp at h0
  · exact h
theorem store_ents (M : Mac) (a v : Int) : (storeM M a v).ents = M.ents := by unfold storeM; split <;> rfl
/-- A new kernel: nothing is mapped. -/
def newK (n m : Nat) (rf : List Int) : Ker := ⟨⟨⟨List.replicate m (List.replicate 16 0), List.replicate m false⟩, List.replicate n ⟨0, 0⟩⟩, 0, rf⟩
theorem newK_ok {n m : Nat} {rf : List Int} (hn : 1 ≤ n ∧ n ≤ 32) (hm : 1 ≤ m ∧ m ≤ 32) : MOk (newK n m rf).m := by
  unfold newK
  refine ⟨by simpa using hm, by simp, ?_, by simpa using hn, ?_, ?_⟩
  · intro i r u hr hu
    dsimp only at hr
    rw [List.getElem?_replicate] at hr
    split at hr
    · cases hr
      refine ⟨by simp, fun j x hx => ?_⟩
      rw [List.getElem?_replicate] at hx
      split at hx
      · cases hx; exact ⟨by omega, by omega, fun _ => rfl⟩
      · cases hx
    · cases hr
  · intro i e he
    dsimp only at he
    rw [List.getElem?_replicate] at he
    split at he
    · cases he; exact ⟨by dsimp only; omega, by dsimp only; omega, by dsimp only; omega, fun _ => rfl, fun h => absurd rfl h⟩
    · cases he
  · intro i u hu
    dsimp only at hu ⊢
    rw [List.getElem?_replicate] at hu
    split at hu
    · cases hu
      refine ⟨fun h => (by cases h), fun ⟨k, e, hk, hm, _⟩ => ?_⟩
      rw [List.getElem?_replicate] at hk
      split at hk
      · cases hk; exact absurd rfl hm
      · cases hk
    · cases hu
theorem set_at {es : List Ent} {p i : Nat} {a e : Ent} (h : (es.set p a)[i]? = some e) : (i = p ∧ e = a) ∨ (i ≠ p ∧ es[i]? = some e) := getElem?_set_cases h
section
variable {K : Ker}
/-- A frame that is not used holds zeros. -/
theorem unused_zero (h : MOk K.m) {f : Nat} {r : List Int} (hu : K.m.f.used[f]? = some false) (hr : K.m.f.cells[f]? = some r) (j : Nat) : r.getD j 0 = 0 := by
  have h1 := (h.row f r false hr hu).2
  by_cases hj : j < r.length
  · rw [List.getD_eq_getElem?_getD, List.getElem?_eq_getElem hj]
    exact (h1 j _ (List.getElem?_eq_getElem hj)).2.2 rfl
  · rw [List.getD_eq_getElem?_getD, List.getElem?_eq_none (by omega)]; rfl
/-- A page is mapped (or the call is refused). -/
theorem mapNew_ok (h : MOk K.m) (p : Nat) : MOk (mapNewS K p).m ∧ (mapNewS K p).refuse = K.refuse ∧ (mapNewS K p).calls = K.calls + 1 := by
  unfold mapNewS
  split
  · rename_i hb
    unfold newB at hb
    simp only [Bool.and_eq_true, decide_eq_true_eq, Bool.not_eq_true', between_iff] at hb
    obtain ⟨⟨⟨-, hbt⟩, hmp⟩, h0⟩ := hb
    obtain ⟨f, hf, hu⟩ := freeIx_lt h0
    obtain ⟨e0, he0⟩ := getx (xs := K.m.ents) (k := p) (by omega)
    have hm0 : e0.m = 0 := by
      unfold mappedB at hmp
      rw [pageEntry_at he0] at hmp
      simpa using hmp
    have hfl := getx_lt hu
    refine ⟨?_, rfl, rfl⟩
    rw [hf]
    simp only [setEnt, withF, Int.toNat_natCast]
    refine ⟨by simpa using h.n1, by simpa using h.u1, ?_, by simpa using h.e1, ?_, ?_⟩
    · intro i r u hr hk
      dsimp only at hr hk
      rcases getElem?_set_cases hk with ⟨rfl, rfl⟩ | ⟨_, hk⟩
      · have := h.row i r false hr hu
        exact ⟨this.1, fun j x hx => ⟨(this.2 j x hx).1, (this.2 j x hx).2.1, fun hh => (by cases hh)⟩⟩
      · exact h.row i r u hr hk
    · intro i e he
      dsimp only at he ⊢
      rw [List.length_set]
      rcases getElem?_set_cases he with ⟨rfl, rfl⟩ | ⟨_, he⟩
      · exact ⟨by dsimp only; omega, by dsimp only; omega, by dsimp only; omega, fun hh => (by simp at hh), fun _ => by dsimp only; omega⟩
      · exact h.ent i e he
    · intro i u hk
      dsimp only at hk ⊢
      rcases getElem?_set_cases hk with ⟨rfl, rfl⟩ | ⟨hne, hk⟩
      · exact ⟨fun _ => ⟨p, ⟨2, i⟩, by rw [List.getElem?_set_self (getx_lt he0)], by simp, rfl⟩, fun _ => rfl⟩
      · rw [h.use i u hk]
        constructor
        · rintro ⟨k, e, hke, hm, hf2⟩
          have hkp : p ≠ k := fun e2 => by subst e2; rw [he0] at hke; cases hke; exact hm hm0
          exact ⟨k, e, by rw [List.getElem?_set_ne hkp]; exact hke, hm, hf2⟩
        · rintro ⟨k, e, hke, hm, hf2⟩
          rcases getElem?_set_cases hke with ⟨rfl, rfl⟩ | ⟨_, hke⟩
          · dsimp only at hf2; omega
          · exact ⟨k, e, hke, hm, hf2⟩
  · exact ⟨h, rfl, rfl⟩
end
end Go.Proofs.Ytkkebpcclklmcaa
