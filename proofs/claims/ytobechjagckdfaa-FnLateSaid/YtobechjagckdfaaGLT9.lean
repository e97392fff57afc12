/-
  Texts put together: KBox2, KEq, KMark, KStep, KTake, KRel, KUnmap, DrawN.
-/
import Derived.Test.YtobechjagckdfaaGLT8
import Derived.Test.YtobechjagckdfaaGLT2
import Derived.Deep.RegionHeld3
/-
  The reference's protection of a page.
-/
set_option linter.unusedVariables false
set_option linter.unusedSimpArgs false
namespace Go.Proofs.Ytobechjagckdfaa
open Go.RowKit
/-- The mode of a page, asked behind the pointer. -/
theorem s_mode {B g : Nat} {y : KV} {K : Ker} {w : World} (h : KIn B w g y K) (p : Int) : Calls Try.prog 72 #[.pointer (some ⟨g, 0, none⟩), .int .i64 p] w fun e w' => e = .returned (.int .i64 (pageEntry K.m.ents p).m) ∧ Below w.heap.size w w' :=
  s_l08Mode g y.m.e K.m.ents p w h.box.lt h.box.c2 (h.own.m.ents.at lenEnt)
theorem KIn.setMode {B : Nat} {w : World} {gb : Nat} {y : KV} {K : Ker} {g n cap i : Nat} {x : Ent} (h : KIn B w gb y K) (hv : y.m.e = .slice (some ⟨g, 0, none⟩) n cap) (hi : K.m.ents[i]? = some x) (m : Int) :
    KIn B (w.setCell ⟨g, i * 2, none⟩ (.int .i64 m)) gb y (setEnt K i ⟨m, x.f⟩) := by
  refine ⟨?_, KOwn.setMode h.own hv hi m, h.hB, h.ne⟩
  have hne : gb ≠ g := fun e => h.ne (by rw [e]; exact mem_blocks.2 ⟨y.m.e, by simp [KV.all, MV.all], by rw [hv]; rfl⟩)
  exact h.box.touch (S := [g]) (grown_touch (r := some g) (grown_setCell (grown_refl w _) _ _) (by simp)) (by simpa using hne)
theorem mapped_not {es : List Ent} {p : Int} (h : mappedB es p = false) : (pageEntry es p).m = 0 := by
  unfold mappedB at h; simpa using h
set_option maxRecDepth 20000 in
set_option maxHeartbeats 1600000 in
theorem s_l08ProtectT (B g : Nat) (y : KV) (K : Ker) (p mode : Int) (hc : 0 ≤ K.calls ∧ K.calls ≤ 100000) (w : World) (h : KIn B w g y K) : Calls Try.prog 50 #[.pointer (some ⟨g, 0, none⟩), .int .i64 p, .int .i64 mode] w fun e w' => e = .returned (.bool (protB K p mode)) ∧ KIn B w' g y (if protB K p mode then setEnt (countedK K) p ⟨mode, (pageEntry K.m.ents p).f⟩ else countedK K) ∧ Below B w w' ∧ Touch (g :: blocks y.all) w w' := by
  have HI := Lib.hid h
  have HC := Lib.hid hc
  clear h hc
  have CALL := Lib.hid (s_l08CallT B g y K HC.out w HI.out)
  cases h2 : grantedB K
  · rw [h2] at CALL
    have HE : Hid (protB K p mode = false) := by unfold Hid protB; rw [h2]; rfl
    rw [HE.out, if_neg Bool.false_ne_true]
    (have hall := all_nil w; go_enter Try.func50, Try.ntmps50)
    go_wp2_with (first | (go_at_call 71; (refine (CALL.out).mono ?_; rintro e w2 ⟨rfl, hki, hb, ht⟩; have KI := Lib.hid hki; have HB1 := Lib.hid hb; have HT1 := Lib.hid ht; clear hki hb ht; obtain ⟨wa, rfl⟩ : ∃ x, x = w2 := ⟨_, rfl⟩)) | (with_reducible refine wp_region_grew2 (by kernel_rfl) (by kernel_rfl) ?_; intro w2 hb; (first | have hn := nw4 hb hall (by exact zo) | have hn := nw3 hb hall (by exact zo) | have hn := nw2 hb hall (by exact zo) | have hn := nw1 hb hall (by exact zo) | have hn := nw0 hb hall (by exact zo)); obtain ⟨hc, hf, hn, hc0⟩ := hn; replace hall := hn; clear hn; have hz := hb.size; (try simp only [World.size_alloc, World.size_setCell, World.size_drew] at hz); have hx := hall; (try simp only [allLt, and_true] at hx); obtain ⟨w1, rfl⟩ : ∃ x, x = w2 := ⟨_, rfl⟩; (repeat (go_big_quiet_step (fail))); refine wpQuiet_nil ?_; intro w2 hw'; have hb := grew_below hw'; clear hw'; (first | have hn := nw4 hb hall (by exact zo) | have hn := nw3 hb hall (by exact zo) | have hn := nw2 hb hall (by exact zo) | have hn := nw1 hb hall (by exact zo) | have hn := nw0 hb hall (by exact zo)); obtain ⟨hc, hf, hn, hc0⟩ := hn; replace hall := hn; clear hn; have hz := hb.size; (try simp only [World.size_alloc, World.size_setCell, World.size_drew] at hz); have hx := hall; (try simp only [allLt, and_true] at hx); obtain ⟨w1, rfl⟩ : ∃ x, x = w2 := ⟨_, rfl⟩))
    go_ret
    exact ⟨rfl, KI.out, HB1.out, HT1.out⟩
  · rw [h2] at CALL
    cases h3 : mappedB K.m.ents p
    · have HE : Hid (protB K p mode = false) := by unfold Hid protB; rw [h2, h3]; rfl
      have HM := Lib.hid (mapped_not h3)
      rw [HE.out, if_neg Bool.false_ne_true]
      (have hall := all_nil w; go_enter Try.func50, Try.ntmps50)
      go_wp2_with (first | (go_at_call 71; (refine (CALL.out).mono ?_; rintro e w2 ⟨rfl, hki, hb, ht⟩; have KI := Lib.hid hki; have HB1 := Lib.hid hb; have HT1 := Lib.hid ht; clear hki hb ht; obtain ⟨wa, rfl⟩ : ∃ x, x = w2 := ⟨_, rfl⟩)) | (go_at_call 72; (refine (s_mode KI.out p).mono ?_; rintro e w2 ⟨rfl, hb⟩; (try rw [HM.out]); have HB2 := Lib.hid hb; clear hb; obtain ⟨wb, rfl⟩ : ∃ x, x = w2 := ⟨_, rfl⟩)) | (with_reducible refine wp_region_grew2 (by kernel_rfl) (by kernel_rfl) ?_; intro w2 hb; (first | have hn := nw4 hb hall (by exact zo) | have hn := nw3 hb hall (by exact zo) | have hn := nw2 hb hall (by exact zo) | have hn := nw1 hb hall (by exact zo) | have hn := nw0 hb hall (by exact zo)); obtain ⟨hc, hf, hn, hc0⟩ := hn; replace hall := hn; clear hn; have hz := hb.size; (try simp only [World.size_alloc, World.size_setCell, World.size_drew] at hz); have hx := hall; (try simp only [allLt, and_true] at hx); obtain ⟨w1, rfl⟩ : ∃ x, x = w2 := ⟨_, rfl⟩; (repeat (go_big_quiet_step (fail))); refine wpQuiet_nil ?_; intro w2 hw'; have hb := grew_below hw'; clear hw'; (first | have hn := nw4 hb hall (by exact zo) | have hn := nw3 hb hall (by exact zo) | have hn := nw2 hb hall (by exact zo) | have hn := nw1 hb hall (by exact zo) | have hn := nw0 hb hall (by exact zo)); obtain ⟨hc, hf, hn, hc0⟩ := hn; replace hall := hn; clear hn; have hz := hb.size; (try simp only [World.size_alloc, World.size_setCell, World.size_drew] at hz); have hx := hall; (try simp only [allLt, and_true] at hx); obtain ⟨w1, rfl⟩ : ∃ x, x = w2 := ⟨_, rfl⟩))
      go_ret
      have hB1 := HB1.out; have hB2 := HB2.out
      have hz := KI.out.box.lt; have hBg := KI.out.hB
      exact ⟨rfl, KI.out.below hB2, by exact bel, HT1.out.trans (touch_of_below hB2 _)⟩
    · obtain ⟨k, en, rfl, hen, hpe⟩ := mapped_in h3
      obtain ⟨yco, ycc, yuo, yuc, yvs, yeo, yec, yro, yrc, rfl⟩ := HI.out.own.shapes
      obtain ⟨ge, gec, hge, -, -⟩ := Own.addr HI.out.own.m.ents (getx_lt hen |> Nat.lt_of_le_of_lt (Nat.zero_le _))
      simp only [Value.slice.injEq] at hge
      obtain ⟨rfl, -, rfl⟩ := hge
      have HN := Lib.hid hen
      have HPE := Lib.hid hpe
      have hlt' : (k : Int) < K.m.ents.length := by have := getx_lt hen; omega
      have hltN : k < K.m.ents.length := getx_lt hen
      have hle9 : K.m.ents.length ≤ 9223372036854775807 := by
        obtain ⟨_, _, _, h1, h2⟩ := (HI.out.own.m.ents.at lenEnt).shape
        unfold maxLen at h2; omega
      have hm0 : (en.m == 0) = false := by unfold mappedB at h3; rw [hpe] at h3; simpa using h3
      clear hen hpe
      rw [HPE.out]
      cases h4 : between mode 1 2
      · have HE : Hid (protB K k mode = false) := by unfold Hid protB; rw [h2, h3, h4]; rfl
        rw [HE.out, if_neg Bool.false_ne_true]
        (have hall := all_nil w; go_enter Try.func50, Try.ntmps50)
        go_wp2_with (first | (go_at_call 71; (refine (CALL.out).mono ?_; rintro e w2 ⟨rfl, hki, hb, ht⟩; have KI := Lib.hid hki; have HB1 := Lib.hid hb; have HT1 := Lib.hid ht; clear hki hb ht; obtain ⟨wa, rfl⟩ : ∃ x, x = w2 := ⟨_, rfl⟩)) | (go_at_call 72; (refine (s_mode KI.out k).mono ?_; rintro e w2 ⟨rfl, hb⟩; rw [HPE.out]; have HB2 := Lib.hid hb; clear hb; obtain ⟨wb, rfl⟩ : ∃ x, x = w2 := ⟨_, rfl⟩)) | (go_at_call 28; (first | (refine (s_l01In _ _ _ true (by assumption) _).mono ?_) | (refine (s_l01In _ _ _ false (by assumption) _).mono ?_) | (refine (s_l01In _ _ _ _ rfl _).mono ?_)); rintro e w2 ⟨rfl, rfl⟩) | (with_reducible refine wp_region_grew2 (by kernel_rfl) (by kernel_rfl) ?_; intro w2 hb; (first | have hn := nw4 hb hall (by exact zo) | have hn := nw3 hb hall (by exact zo) | have hn := nw2 hb hall (by exact zo) | have hn := nw1 hb hall (by exact zo) | have hn := nw0 hb hall (by exact zo)); obtain ⟨hc, hf, hn, hc0⟩ := hn; replace hall := hn; clear hn; have hz := hb.size; (try simp only [World.size_alloc, World.size_setCell, World.size_drew] at hz); have hx := hall; (try simp only [allLt, and_true] at hx); obtain ⟨w1, rfl⟩ : ∃ x, x = w2 := ⟨_, rfl⟩; (repeat (go_big_quiet_step (first | (go_at_call 28; first | exact calls_same (s_l01In _ _ _ true (by assumption) _) | exact calls_same (s_l01In _ _ _ false (by assumption) _) | exact calls_same (s_l01In _ _ _ _ rfl _))))); refine wpQuiet_nil ?_; intro w2 hw'; have hb := grew_below hw'; clear hw'; (first | have hn := nw4 hb hall (by exact zo) | have hn := nw3 hb hall (by exact zo) | have hn := nw2 hb hall (by exact zo) | have hn := nw1 hb hall (by exact zo) | have hn := nw0 hb hall (by exact zo)); obtain ⟨hc, hf, hn, hc0⟩ := hn; replace hall := hn; clear hn; have hz := hb.size; (try simp only [World.size_alloc, World.size_setCell, World.size_drew] at hz); have hx := hall; (try simp only [allLt, and_true] at hx); obtain ⟨w1, rfl⟩ : ∃ x, x = w2 := ⟨_, rfl⟩))
        go_ret
        have hB1 := HB1.out; have hB2 := HB2.out
        have hz := KI.out.box.lt; have hBg := KI.out.hB
        exact ⟨rfl, KI.out.below hB2, by exact bel, HT1.out.trans (touch_of_below hB2 _)⟩
      · have HE : Hid (protB K k mode = true) := by unfold Hid protB; rw [h2, h3, h4]; rfl
        rw [HE.out, if_pos rfl]
        (have hall := all_nil w; go_enter Try.func50, Try.ntmps50)
        go_wp2_with (first | (go_at_call 71; (refine (CALL.out).mono ?_; rintro e w2 ⟨rfl, hki, hb, ht⟩; have KI := Lib.hid hki; have HB1 := Lib.hid hb; have HT1 := Lib.hid ht; clear hki hb ht; obtain ⟨wa, rfl⟩ : ∃ x, x = w2 := ⟨_, rfl⟩)) | (go_at_call 72; (refine (s_mode KI.out k).mono ?_; rintro e w2 ⟨rfl, hb⟩; rw [HPE.out]; have HB2 := Lib.hid hb; (have K2 := KI.out.below hb); (obtain ⟨xg, c0, c1, c2, c3, c4, f0, f1, f2, f3, f4⟩ := K2.box); (dsimp only at c2); (obtain ⟨hBge, xge, e0, z0, e1, z1⟩ := OwnEnt.slot K2.own.m.ents HN.out); have KJ := Lib.hid K2; clear hb K2; obtain ⟨wb, rfl⟩ : ∃ x, x = w2 := ⟨_, rfl⟩)) | (go_at_call 28; (first | (refine (s_l01In _ _ _ true (by assumption) _).mono ?_) | (refine (s_l01In _ _ _ false (by assumption) _).mono ?_) | (refine (s_l01In _ _ _ _ rfl _).mono ?_)); rintro e w2 ⟨rfl, rfl⟩) | (with_reducible refine wp_region_grew2 (by kernel_rfl) (by kernel_rfl) ?_; intro w2 hb; (first | have hn := nw4 hb hall (by exact zo) | have hn := nw3 hb hall (by exact zo) | have hn := nw2 hb hall (by exact zo) | have hn := nw1 hb hall (by exact zo) | have hn := nw0 hb hall (by exact zo)); obtain ⟨hc, hf, hn, hc0⟩ := hn; replace hall := hn; clear hn; have hz := hb.size; (try simp only [World.size_alloc, World.size_setCell, World.size_drew] at hz); have hx := hall; (try simp only [allLt, and_true] at hx); obtain ⟨w1, rfl⟩ : ∃ x, x = w2 := ⟨_, rfl⟩; (repeat (go_big_quiet_step (first | (go_at_call 28; first | exact calls_same (s_l01In _ _ _ true (by assumption) _) | exact calls_same (s_l01In _ _ _ false (by assumption) _) | exact calls_same (s_l01In _ _ _ _ rfl _))))); refine wpQuiet_nil ?_; intro w2 hw'; have hb := grew_below hw'; clear hw'; (first | have hn := nw4 hb hall (by exact zo) | have hn := nw3 hb hall (by exact zo) | have hn := nw2 hb hall (by exact zo) | have hn := nw1 hb hall (by exact zo) | have hn := nw0 hb hall (by exact zo)); obtain ⟨hc, hf, hn, hc0⟩ := hn; replace hall := hn; clear hn; have hz := hb.size; (try simp only [World.size_alloc, World.size_setCell, World.size_drew] at hz); have hx := hall; (try simp only [allLt, and_true] at hx); obtain ⟨w1, rfl⟩ : ∃ x, x = w2 := ⟨_, rfl⟩))
        go_ret
        have hB1 := HB1.out; have hB2 := HB2.out
        have hz := KI.out.box.lt; have hBg := KI.out.hB
        exact ⟨rfl, KIn.setMode KJ.out rfl HN.out mode, by exact bel, touch_cellT (HT1.out.trans (touch_of_below hB2 _)) (List.mem_cons_of_mem _ (mem_blocks.2 ⟨.slice (some ⟨ge, 0, none⟩) K.m.ents.length yec, by simp [KV.all, MV.all], rfl⟩))⟩
theorem s_l08Protect (B g : Nat) (y : KV) (K : Ker) (p mode : Int) (hc : 0 ≤ K.calls ∧ K.calls ≤ 100000) (w : World) (h : KIn B w g y K) : Calls Try.prog 50 #[.pointer (some ⟨g, 0, none⟩), .int .i64 p, .int .i64 mode] w fun e w' => e = .returned (.bool (protB K p mode)) ∧ KIn B w' g y (if protB K p mode then setEnt (countedK K) p ⟨mode, (pageEntry K.m.ents p).f⟩ else countedK K) ∧ Below B w w' :=
  (s_l08ProtectT B g y K p mode hc w h).mono fun e w' ⟨h1, h2, h3, _⟩ => ⟨h1, h2, h3⟩
end Go.Proofs.Ytobechjagckdfaa
/-
  The laws' functions on frames, tables, machines, kernels: equal.
-/
set_option linter.unusedVariables false
set_option linter.unusedSimpArgs false
namespace Go.Proofs.Ytobechjagckdfaa
open Go.RowKit




end Go.Proofs.Ytobechjagckdfaa
/-
  The laws' functions on frames, tables, machines, kernels: marked, held.
-/
set_option linter.unusedVariables false
set_option linter.unusedSimpArgs false
namespace Go.Proofs.Ytobechjagckdfaa
open Go.RowKit
def cntF (F : Frm) : Nat := tot F.cells + F.used.length
def cntM (M : Mac) : Nat := cntF M.f + 2 * M.ents.length
def cntK (K : Ker) : Nat := cntM K.m + K.refuse.length
theorem grown_touch1 {w w' : World} {v : Value} (h : w.grownBy w' v.ownBlock) : Touch (blocks [v]) w w' := grown_touch h fun g hg => mem_one hg
theorem Own.touchs {α : Type} {E k B : Nat} {f : α → List Value} {w w' : World} {v : Value} {xs : List α} {S : List Nat} (h : Own E k f B w v xs) (ht : Touch S w w') (hne : ∀ g ∈ blocks [v], g ∉ S) : Own E k f B w' v xs :=
  h.touch ht fun g hg => hne g (mem_one hg)
theorem apart_symm {l m : List Nat} (h : ∀ g ∈ l, g ∉ m) : ∀ g ∈ m, g ∉ l := fun g hm hl => h g hl hm
end Go.Proofs.Ytobechjagckdfaa
/-
  What the steps of a kernel do to its data, and what they leave in memory.
-/
set_option linter.unusedVariables false
set_option linter.unusedSimpArgs false
namespace Go.Proofs.Ytobechjagckdfaa
open Go.RowKit
/-! The data. -/
def dropF (F : Frm) (fr : Nat) : Frm := ⟨F.cells.set fr (List.replicate 16 0), F.used.set fr false⟩
def withF (K : Ker) (F : Frm) : Ker := ⟨⟨F, K.m.ents⟩, K.calls, K.refuse⟩
def dropK (K : Ker) (fr : Int) : Ker := if pagesOn K.m.ents fr = [] then withF K (dropF K.m.f fr.toNat) else K
def unmapB (K : Ker) (p : Int) : Bool := mappedB K.m.ents p
def kUnmapK (K : Ker) (p : Int) : Ker := if canCall K && mappedB K.m.ents p then dropK (setEnt K p ⟨0, 0⟩) (pageEntry K.m.ents p).f else K
def onB (K : Ker) (p o : Int) : Bool := grantedB K && mappedB K.m.ents p && mappedB K.m.ents o && (p != o)
def mapOnS (K : Ker) (p o : Int) : Ker := if onB K p o then dropK (setEnt (countedK K) p ⟨2, (pageEntry K.m.ents o).f⟩) (pageEntry K.m.ents p).f else countedK K
def kMapOnK (K : Ker) (p o : Int) : Ker := if canCall K then mapOnS K p o else K
def freeIx (us : List Bool) : Int := match us.findIdx? (fun b => !b) with
  | some i => i
  | none => -1
def newB (K : Ker) (p : Int) : Bool := grantedB K && between p 0 (K.m.ents.length - 1) && !mappedB K.m.ents p && decide (0 ≤ freeIx K.m.f.used)
def mapNewS (K : Ker) (p : Int) : Ker := if newB K p then setEnt (withF (countedK K) ⟨K.m.f.cells, K.m.f.used.set (freeIx K.m.f.used).toNat true⟩) p ⟨2, freeIx K.m.f.used⟩ else countedK K
def kMapNewK (K : Ker) (p : Int) : Ker := if canCall K then mapNewS K p else K
theorem freeIx_at {us : List Bool} {k : Nat} (h : allTo (fun j => us.getD j false) k = true) (hk : us[k]? = some false) : freeIx us = k := by
  have e : us.findIdx? (fun b => !b) = some k := by
    have hlt := getx_lt hk
    rw [List.getElem?_eq_getElem hlt] at hk
    rw [List.findIdx?_eq_some_iff_getElem]
    refine ⟨hlt, by rw [Option.some.inj hk]; rfl, fun j hj => ?_⟩
    have := allTo_iff.1 h j hj
    rw [List.getD_eq_getElem?_getD, List.getElem?_eq_getElem (by omega)] at this
    simpa using this
  unfold freeIx
  rw [e]
theorem freeIx_none {us : List Bool} (h : allTo (fun j => us.getD j false) us.length = true) : freeIx us = -1 := by
  have e : us.findIdx? (fun b => !b) = none := by
    rw [List.findIdx?_eq_none_iff]
    intro x hx
    obtain ⟨j, hj⟩ := List.getElem?_of_mem hx
    have := allTo_iff.1 h j (getx_lt hj)
    rw [getD_of hj] at this
    rw [this]; rfl
  unfold freeIx
  rw [e]
theorem freeIx_lt {us : List Bool} (h : 0 ≤ freeIx us) : ∃ k : Nat, freeIx us = k ∧ us[k]? = some false := by
  unfold freeIx at h ⊢
  cases e : us.findIdx? (fun b => !b) with
  | none => rw [e] at h; exact absurd h (by decide)
  | some k =>
    obtain ⟨hlt, h1, _⟩ := List.findIdx?_eq_some_iff_getElem.1 e
    refine ⟨k, rfl, ?_⟩
    rw [List.getElem?_eq_getElem hlt]
    simpa using h1
theorem freeIx_ge (us : List Bool) : -1 ≤ freeIx us := by
  unfold freeIx
  split <;> omega
/-! Numbers of cells. -/
theorem lensTo_set (rows : List (List Int)) (i : Nat) (r : List Int) : ∀ k, lensTo (rows.set i r) k ≤ lensTo rows k + (if i < k then r.length else 0)
  | 0 => by simp [lensTo]
  | k + 1 => by
    have ih := lensTo_set rows i r k
    rw [lensTo, lensTo]
    by_cases h : i = k
    · subst h
      rw [if_neg (by omega)] at ih
      rw [if_pos (by omega), List.getD_eq_getElem?_getD, List.getElem?_set]
      rw [if_pos rfl]
      split
      · simp; omega
      · simp; omega
    · rw [List.getD_eq_getElem?_getD, List.getElem?_set, if_neg h, ← List.getD_eq_getElem?_getD]
      by_cases h1 : i < k
      · rw [if_pos h1] at ih; rw [if_pos (by omega)]; omega
      · rw [if_neg h1] at ih; rw [if_neg (by omega)]; omega
theorem tot_set (rows : List (List Int)) (i : Nat) (r : List Int) : tot (rows.set i r) ≤ tot rows + r.length := by
  have h := lensTo_set rows i r rows.length
  unfold tot
  rw [List.length_set]
  split at h <;> omega
theorem cntK_set (K : Ker) (i : Nat) (r : List Int) (us : List Bool) (es : List Ent) (c : Int) (hu : us.length = K.m.f.used.length) (he : es.length = K.m.ents.length) : cntK ⟨⟨⟨K.m.f.cells.set i r, us⟩, es⟩, c, K.refuse⟩ ≤ cntK K + r.length := by
  have := tot_set K.m.f.cells i r
  simp only [cntK, cntM, cntF, hu, he]
  omega
theorem cnt_drop (K : Ker) (fr : Int) : cntK (dropK K fr) ≤ cntK K + 16 := by
  unfold dropK
  split
  · have h := cntK_set K fr.toNat (List.replicate 16 0) (K.m.f.used.set fr.toNat false) K.m.ents K.calls (by simp) rfl
    simpa [withF, dropF] using h
  · omega
theorem cnt_setEnt (K : Ker) (p : Int) (e : Ent) : cntK (setEnt K p e) = cntK K := by simp [setEnt, cntK, cntM, cntF]
/-! What lies in memory. -/
section
variable {w w' : World} {B : Nat} {S : List Nat}
theorem mem_all {y : KV} {g : Nat} (h : g ∈ blocks y.m.f.all) : g ∈ blocks y.all := sub_right _ _ g (sub_right _ _ g h)
theorem Own.mem {v : Value} {g n cap : Nat} (h : v = .slice (some ⟨g, 0, none⟩) n cap) : v.ownBlock = some g := by rw [h]; rfl
/-- The frames have been written: all else stays. -/
theorem KOwn.setF {y : KV} {K : Ker} {f' : FV} {F' : Frm} (h : KOwn B w y K) (ht : Touch S w w') (hS : ∀ g ∈ S, g ∈ blocks y.m.f.all) (hf : FOwn B w' f' F') (hn : ∀ g ∈ blocks f'.all, g ∈ blocks y.m.f.all ∨ g ∉ blocks y.all) :
    KOwn B w' ⟨⟨f', y.m.e⟩, y.r⟩ (withF K F') := by
  have ap1 : ∀ g, y.m.e.ownBlock = some g → g ∉ blocks y.m.f.all := fun g hg => nodup_apart (l := [y.m.e]) h.m.nd g (mem_one hg)
  have ap2 : ∀ g, y.r.ownBlock = some g → g ∉ blocks y.m.all := fun g hg => nodup_apart (l := [y.r]) h.nd g (mem_one hg)
  have ine : ∀ g, y.m.e.ownBlock = some g → g ∈ blocks y.all := fun g hg => sub_right _ _ g (sub_left [y.m.e] _ g (mem_one hg))
  have inr : ∀ g, y.r.ownBlock = some g → g ∈ blocks y.all := fun g hg => sub_left [y.r] _ g (mem_one hg)
  have e' := h.m.ents.touch ht fun g hg hs => ap1 g hg (hS g hs)
  have r' := h.ref.touch ht fun g hg hs => ap2 g hg (sub_right _ _ g (hS g hs))
  have hne : ∀ g, y.m.e.ownBlock = some g → g ∉ blocks f'.all := fun g hg hm => (hn g hm).elim (ap1 g hg) fun h2 => h2 (ine g hg)
  have hnr : ∀ g, y.r.ownBlock = some g → g ∉ blocks f'.all := fun g hg hm => (hn g hm).elim (fun h1 => ap2 g hg (sub_right _ _ g h1)) fun h2 => h2 (inr g hg)
  have one : ∀ (v : Value) (l : List Value), (∀ g, v.ownBlock = some g → g ∉ blocks l) → ∀ g ∈ blocks [v], g ∉ blocks l := fun v l hv g hg => by
    obtain ⟨u, hu, hb⟩ := mem_blocks.1 hg
    simp only [List.mem_singleton] at hu
    subst hu
    exact hv g hb
  refine ⟨⟨hf, e', nodup_blocks (l := [y.m.e]) (nodup_one _) hf.nd (one _ _ hne)⟩, r', ?_⟩
  refine nodup_blocks (l := [y.r]) (nodup_one _) (nodup_blocks (l := [y.m.e]) (nodup_one _) hf.nd (one _ _ hne)) (one _ _ fun g hg hm => ?_)
  rw [show (KV.mk ⟨f', y.m.e⟩ y.r).m.all = [y.m.e] ++ f'.all from rfl, blocks_append, List.mem_append] at hm
  rcases hm with hm | hm
  · exact ap2 g hg (sub_left [y.m.e] _ g hm)
  · exact hnr g hg hm
theorem KIn.setF {g : Nat} {y : KV} {K : Ker} {f' : FV} {F' : Frm} (h : KIn B w g y K) (ht : Touch S w w') (hS : ∀ b ∈ S, b ∈ blocks y.m.f.all) (hf : FOwn B w' f' F') (hn : ∀ b ∈ blocks f'.all, b ∈ blocks y.m.f.all ∨ (b ∉ blocks y.all ∧ b ≠ g)) (hc : f'.c = y.m.f.c) (hu : f'.u = y.m.f.u) :
    KIn B w' g ⟨⟨f', y.m.e⟩, y.r⟩ (withF K F') := by
  have hg : g ∉ S := fun hs => h.ne (mem_all (hS g hs))
  have b := h.box.touch ht hg
  refine ⟨⟨b.lt, by rw [hc]; exact b.c0, by rw [hu]; exact b.c1, b.c2, b.c3, b.c4, b.f0, b.f1, b.f2, b.f3, b.f4⟩, KOwn.setF h.own ht hS hf fun x hx => (hn x hx).imp_right And.left, h.hB, fun hm => ?_⟩
  rw [show (KV.mk ⟨f', y.m.e⟩ y.r).all = [y.r] ++ ([y.m.e] ++ f'.all) from rfl, blocks_append, blocks_append, List.mem_append, List.mem_append] at hm
  rcases hm with hm | hm | hm
  · exact h.ne (sub_left [y.r] _ g hm)
  · exact h.ne (sub_right _ _ g (sub_left [y.m.e] _ g hm))
  · rcases hn g hm with h1 | ⟨_, h1⟩
    · exact h.ne (mem_all h1)
    · exact h1 rfl
/-- The entries have been written. -/
theorem KIn.setEnts {g : Nat} {y : KV} {K : Ker} {es : List Ent} (h : KIn B w g y K) (hgr : w.grownBy w' y.m.e.ownBlock) (he : OwnEnt B w' y.m.e es) : KIn B w' g y ⟨⟨K.m.f, es⟩, K.calls, K.refuse⟩ :=
  ⟨h.box.touch (S := blocks [y.m.e]) (grown_touch hgr fun b hb => mem_one hb) fun hm => h.ne (sub_right [y.r] _ g (sub_left [y.m.e] _ g hm)), h.own.setEnts hgr he, h.hB, h.ne⟩
theorem OwnEnt.put {v : Value} {es : List Ent} {ge n cap : Nat} (h : OwnEnt B w v es) (hv : v = .slice (some ⟨ge, 0, none⟩) n cap) {i : Nat} (hi : i < es.length) (m f : Int) :
    OwnEnt B ((w.setCell ⟨ge, i * 2, none⟩ (.int .i64 m)).setCell ⟨ge, i * 2 + 1, none⟩ (.int .i64 f)) v (es.set i ⟨m, f⟩) ∧ w.grownBy ((w.setCell ⟨ge, i * 2, none⟩ (.int .i64 m)).setCell ⟨ge, i * 2 + 1, none⟩ (.int .i64 f)) v.ownBlock :=
  Own.setk lenEnt h hv i hi ⟨m, f⟩
theorem KIn.setEnt {g : Nat} {y : KV} {K : Ker} {ge n cap : Nat} (h : KIn B w g y K) (hv : y.m.e = .slice (some ⟨ge, 0, none⟩) n cap) {i : Nat} (hi : i < K.m.ents.length) (m f : Int) :
    KIn B ((w.setCell ⟨ge, i * 2, none⟩ (.int .i64 m)).setCell ⟨ge, i * 2 + 1, none⟩ (.int .i64 f)) g y (setEnt K i ⟨m, f⟩) := by
  have S := OwnEnt.put h.own.m.ents hv hi m f
  exact h.setEnts S.2 S.1
theorem KIn.neU {g b n c : Nat} {y : KV} {K : Ker} (h : KIn B w g y K) (hu : y.m.f.u = .slice (some ⟨b, 0, none⟩) n c) : g ≠ b ∧ b ≠ g := by
  have : g ≠ b := fun e => h.ne (mem_all (sub_left [y.m.f.u] _ g (mem_one (by rw [e]; exact Own.mem hu))))
  exact ⟨this, this.symm⟩
theorem KIn.neC {g b n c : Nat} {y : KV} {K : Ker} (h : KIn B w g y K) (hu : y.m.f.c = .slice (some ⟨b, 0, none⟩) n c) : g ≠ b ∧ b ≠ g := by
  have : g ≠ b := fun e => h.ne (mem_all (sub_right [y.m.f.u] _ g (mem_blocks.2 ⟨y.m.f.c, List.mem_cons_self, by rw [e]; exact Own.mem hu⟩)))
  exact ⟨this, this.symm⟩
theorem KIn.neV {g b n c i : Nat} {y : KV} {K : Ker} {v : Value} (h : KIn B w g y K) (hi : y.m.f.vs[i]? = some v) (hu : v = .slice (some ⟨b, 0, none⟩) n c) : g ≠ b ∧ b ≠ g := by
  have : g ≠ b := fun e => h.ne (mem_all (sub_right [y.m.f.u] _ g (mem_blocks.2 ⟨v, List.mem_cons_of_mem _ (List.mem_of_getElem? hi), by rw [e]; exact Own.mem hu⟩)))
  exact ⟨this, this.symm⟩
theorem KIn.neE {g b n c : Nat} {y : KV} {K : Ker} (h : KIn B w g y K) (hu : y.m.e = .slice (some ⟨b, 0, none⟩) n c) : g ≠ b ∧ b ≠ g := by
  have : g ≠ b := fun e => h.ne (sub_right [y.r] _ g (sub_left [y.m.e] _ g (mem_one (by rw [e]; exact Own.mem hu))))
  exact ⟨this, this.symm⟩
theorem FOwn.neUC {b n c b' n' c' : Nat} {x : FV} {F : Frm} (h : FOwn B w x F) (hu : x.u = .slice (some ⟨b, 0, none⟩) n c) (hc : x.c = .slice (some ⟨b', 0, none⟩) n' c') : b ≠ b' ∧ b' ≠ b := by
  have : b ≠ b' := fun e => nodup_apart (l := [x.u]) h.nd b (mem_one (Own.mem hu)) (mem_blocks.2 ⟨x.c, List.mem_cons_self, by rw [e]; exact Own.mem hc⟩)
  exact ⟨this, this.symm⟩
/-- A frame's mark is stored. -/
theorem FOwn.setUsed {x : FV} {F : Frm} {g n cap : Nat} (h : FOwn B w x F) (hu : x.u = .slice (some ⟨g, 0, none⟩) n cap) (i : Nat) (b : Bool) :
    FOwn B (w.setCell ⟨g, i, none⟩ (.bool b)) x ⟨F.cells, F.used.set i b⟩ ∧ Touch (blocks [x.u]) w (w.setCell ⟨g, i, none⟩ (.bool b)) := by
  have S := Own.set1 lenBool h.used hu i (.bool b) b rfl
  have ap := nodup_apart (l := [x.u]) h.nd
  have ht : Touch (blocks [x.u]) w (w.setCell ⟨g, i, none⟩ (.bool b)) := grown_touch S.2 fun g hg => mem_one hg
  exact ⟨⟨h.rows.touch ht fun g hg hm => ap g hm hg, S.1, h.nd⟩, ht⟩
/-- A row is put in the place of another. -/
theorem FOwn.setRowVal {x : FV} {F : Frm} {g n cap i : Nat} {v : Value} {r : List Int} (h : FOwn B w x F) (hc : x.c = .slice (some ⟨g, 0, none⟩) n cap) (hi : i < F.cells.length) (hv : OwnI B w v r) (hnew : ∀ b, v.ownBlock = some b → b ∉ blocks x.all) :
    FOwn B (w.setCell ⟨g, i, none⟩ v) ⟨x.c, x.u, x.vs.set i v⟩ ⟨F.cells.set i r, F.used⟩ ∧ Touch (blocks [x.c]) w (w.setCell ⟨g, i, none⟩ v) := by
  have ap := nodup_apart (l := [x.u]) h.nd
  have nd2 := nodup_right (l := [x.u]) h.nd
  have inc : ∀ b, b ∈ blocks (x.c :: x.vs) → b ∈ blocks x.all := fun b hb => sub_right [x.u] _ b hb
  have hcg : x.c.ownBlock = some g := Own.mem hc
  have hne : v.ownBlock ≠ some g := fun e => hnew g e (inc g (mem_blocks.2 ⟨x.c, List.mem_cons_self, hcg⟩))
  have S := OwnRows.setVal h.rows nd2 hc hv hne (by rw [h.rows.len]; exact hi)
  have ht : Touch (blocks [x.c]) w (w.setCell ⟨g, i, none⟩ v) := grown_touch S.2 fun b hb => mem_one hb
  refine ⟨⟨S.1, h.used.touch ht fun b hb hm => ap b (mem_one hb) (blocks_sub (l := [x.c]) (fun u hu => by simp only [List.mem_singleton] at hu; subst hu; exact List.mem_cons_self) b hm), ?_⟩, ht⟩
  have nd3 : (blocks (x.c :: x.vs.set i v)).Nodup := nodup_blocks (l := [x.c]) (nodup_one _) (nodup_set (nodup_right (l := [x.c]) nd2) fun b hb hm => hnew b hb (inc b (blocks_sub (fun u hu => List.mem_cons_of_mem _ hu) b hm))) fun b hb hm => by
    rcases blocks_set b hm with h3 | h3
    · exact nodup_apart (l := [x.c]) nd2 b hb h3
    · exact hnew b h3 (inc b (blocks_sub (l := [x.c]) (fun u hu => by simp only [List.mem_singleton] at hu; subst hu; exact List.mem_cons_self) b hb))
  refine nodup_blocks (l := [x.u]) (nodup_one _) nd3 fun b hb hm => ?_
  rw [show x.c :: x.vs.set i v = [x.c] ++ x.vs.set i v from rfl, blocks_append, List.mem_append] at hm
  rcases hm with hm | hm
  · exact ap b hb (blocks_sub (l := [x.c]) (fun u hu => by simp only [List.mem_singleton] at hu; subst hu; exact List.mem_cons_self) b hm)
  · rcases blocks_set b hm with h3 | h3
    · exact ap b hb (blocks_sub (fun u hu => List.mem_cons_of_mem _ hu) b h3)
    · exact hnew b h3 (sub_left [x.u] _ b hb)
/-- A cell of a row is stored. -/
theorem FOwn.setCell {x : FV} {F : Frm} {g n cap i : Nat} {v : Value} {r : List Int} (h : FOwn B w x F) (hi : x.vs[i]? = some v) (hr : F.cells[i]? = some r) (hv : v = .slice (some ⟨g, 0, none⟩) n cap) (j : Nat) (y : Int) :
    FOwn B (w.setCell ⟨g, j, none⟩ (.int .i64 y)) x ⟨F.cells.set i (r.set j y), F.used⟩ ∧ Touch (blocks [v]) w (w.setCell ⟨g, j, none⟩ (.int .i64 y)) := by
  have ap := nodup_apart (l := [x.u]) h.nd
  have nd2 := nodup_right (l := [x.u]) h.nd
  have ho := h.rows.row i v r hi hr
  have S := Own.set1 lenInt ho hv j (.int .i64 y) y rfl
  have ht : Touch (blocks [v]) w (w.setCell ⟨g, j, none⟩ (.int .i64 y)) := grown_touch S.2 fun b hb => mem_one hb
  refine ⟨⟨OwnRows.setRow h.rows nd2 hi S.2 S.1, h.used.touch ht fun b hb hm => ap b (mem_one hb) (blocks_sub (l := [v]) (fun u hu => by simp only [List.mem_singleton] at hu; subst hu; exact List.mem_cons_of_mem _ (List.mem_of_getElem? hi)) b hm), h.nd⟩, ht⟩
theorem mem_c (x : FV) : ∀ b ∈ blocks [x.c], b ∈ blocks x.all := fun b hb => sub_right [x.u] _ b (blocks_sub (l := [x.c]) (fun u hu => by simp only [List.mem_singleton] at hu; subst hu; exact List.mem_cons_self) b hb)
theorem mem_u (x : FV) : ∀ b ∈ blocks [x.u], b ∈ blocks x.all := fun b hb => sub_left [x.u] _ b hb
theorem mem_v {x : FV} {i : Nat} {v : Value} (hi : x.vs[i]? = some v) : ∀ b ∈ blocks [v], b ∈ blocks x.all := fun b hb => sub_right [x.u] _ b (blocks_sub (l := [v]) (fun u hu => by simp only [List.mem_singleton] at hu; subst hu; exact List.mem_cons_of_mem _ (List.mem_of_getElem? hi)) b hb)
end
end Go.Proofs.Ytobechjagckdfaa
/-
  The first free frame, and frames with it taken.
-/
set_option linter.unusedVariables false
set_option linter.unusedSimpArgs false
namespace Go.Proofs.Ytobechjagckdfaa
open Go.RowKit
def takeF (F : Frm) : Frm := if 0 ≤ freeIx F.used then ⟨F.cells, F.used.set (freeIx F.used).toNat true⟩ else F
def NewTake (w : World) (F : Frm) (e : Ending) (w' : World) : Prop := ∃ y : FV, e = .returned (.tuple #[y.val, .int .i64 (freeIx F.used), .bool (decide (0 ≤ freeIx F.used))]) ∧ FOwn w.heap.size w' y (takeF F) ∧ Below w.heap.size w w'
section
variable {w : World} {B : Nat}
theorem KIn.setUsed {gb g n cap : Nat} {y : KV} {K : Ker} (h : KIn B w gb y K) (hu : y.m.f.u = .slice (some ⟨g, 0, none⟩) n cap) (i : Nat) (b : Bool) : KIn B (w.setCell ⟨g, i, none⟩ (.bool b)) gb y (withF K ⟨K.m.f.cells, K.m.f.used.set i b⟩) := by
  have S := FOwn.setUsed h.own.m.f hu i b
  exact KIn.setF (f' := y.m.f) h S.2 (fun b hb => sub_left [y.m.f.u] _ b hb) S.1 (fun b hb => .inl hb) rfl rfl
theorem KOwn.newF {B' g : Nat} {y : KV} {K : Ker} {z : FV} {F : Frm} (h : KOwn B w y K) (hz : FOwn B' w z F) (hB : B ≤ B') (hy : ∀ b ∈ blocks y.all, b < g) (hz' : ∀ b ∈ blocks z.all, g < b) : KOwn B w ⟨⟨z, y.m.e⟩, y.r⟩ (withF K F) ∧ g ∉ blocks (KV.mk ⟨z, y.m.e⟩ y.r).all := by
  refine ⟨KOwn.setF h (Touch.refl [] w) (by simp) (hz.mono hB) fun b hb => .inr fun hm => by have := hy b hm; have := hz' b hb; omega, fun hm => ?_⟩
  rw [show (KV.mk ⟨z, y.m.e⟩ y.r).all = [y.r] ++ ([y.m.e] ++ z.all) from rfl, blocks_append, blocks_append, List.mem_append, List.mem_append] at hm
  rcases hm with hm | hm | hm
  · have := hy g (sub_left [y.r] _ g hm); omega
  · have := hy g (sub_right [y.r] _ g (sub_left [y.m.e] _ g hm)); omega
  · have := hz' g hm; omega
theorem neUE {b n c b' n' c' : Nat} {y : KV} {K : Ker} (h : KOwn B w y K) (hu : y.m.f.u = .slice (some ⟨b, 0, none⟩) n c) (he : y.m.e = .slice (some ⟨b', 0, none⟩) n' c') : b ≠ b' ∧ b' ≠ b := by
  have : b' ≠ b := fun e => nodup_apart (l := [y.m.e]) h.m.nd b' (mem_one (Own.mem he)) (sub_left [y.m.f.u] _ b' (mem_one (by rw [e]; exact Own.mem hu)))
  exact ⟨this.symm, this⟩
end
theorem s_l05Free (c : Value) (v : Value) (us : List Bool) (w : World) (ha : BoolsAt w v us) : Calls Try.prog 70 #[.agg #[c, v]] w fun e w' => e = .returned (.int .i64 (freeIx us)) ∧ Below w.heap.size w w' := by
  obtain ⟨uo, uc, rfl, h1, h2, hur⟩ := BoolsAt.open ha
  have hm1 : us.length ≤ 9223372036854775807 := by unfold maxLen at h2; omega
  have HU := Lib.hid hur
  clear ha h1 h2 hur
  (have hall := all_nil w; go_enter Try.func70, Try.ntmps70)
  go_wp2
  go_loop [3] (fun i => ∃ k : Nat, k ≤ us.length ∧ i = .int .i64 k ∧ allTo (fun j => us.getD j false) k = true) (fun i => us.length - (intOf i).toNat)
  case atStart => exact ⟨0, Nat.zero_le _, rfl, rfl⟩
  case round =>
    obtain ⟨k, hk, rfl, hall2⟩ := hrel
    have HA := Lib.hid hall2; clear hall2
    by_cases hlt : k < us.length
    · have hlt' : (k : Int) < us.length := by omega
      obtain ⟨uk, huk⟩ := getx hlt
      obtain ⟨gu, ou, rfl, hgu, hcu⟩ := HU.out k uk huk
      have HK := Lib.hid huk
      clear huk
      cases uk
      · go_wp2
        go_ret
        exact ⟨ret_int (freeIx_at HA.out HK.out).symm, by exact bel⟩
      · go_wp2
        go_round
        case rel => exact ⟨k + 1, by omega, by go_num, by rw [allTo, HA.out, getD_of HK.out]; rfl⟩
        case measure => simp [intOf]; omega
    · have hlt' : ¬ (k : Int) < us.length := by omega
      obtain rfl : k = us.length := by omega
      go_wp2
      go_ret
      exact ⟨ret_int (freeIx_none HA.out).symm, by exact bel⟩


end Go.Proofs.Ytobechjagckdfaa
/-
  A frame is given back if no page is mapped to it.
-/
set_option linter.unusedVariables false
set_option linter.unusedSimpArgs false
namespace Go.Proofs.Ytobechjagckdfaa
open Go.RowKit
/-- What a step without a result leaves behind the pointer. -/
def KLeft (B g : Nat) (w : World) (K : Ker) (e : Ending) (w' : World) : Prop := ∃ y : KV, e = .returned (.tuple #[]) ∧ KIn B w' g y K ∧ Below B w w'
theorem OwnI.zeros {B : Nat} (w : World) (hB : B ≤ w.heap.size) : OwnI B (w.alloc (.cells #[.int .i64 0, .int .i64 0, .int .i64 0, .int .i64 0, .int .i64 0, .int .i64 0, .int .i64 0, .int .i64 0, .int .i64 0, .int .i64 0, .int .i64 0, .int .i64 0, .int .i64 0, .int .i64 0, .int .i64 0, .int .i64 0] 3)) (.slice (some ⟨w.heap.size, 0, none⟩) 16 16) (List.replicate 16 0) :=
  World.ownsRow_lit w #[.int .i64 0, .int .i64 0, .int .i64 0, .int .i64 0, .int .i64 0, .int .i64 0, .int .i64 0, .int .i64 0, .int .i64 0, .int .i64 0, .int .i64 0, .int .i64 0, .int .i64 0, .int .i64 0, .int .i64 0, .int .i64 0] 16 hB (by unfold maxLen; omega) rfl
theorem mk16 (w : World) : (Instr.makeSlice 33 (.int .i64 16) (.int .i64 16)).run Try.prog w = .ok (.slice (some ⟨w.heap.size, 0, none⟩) 16 16) (w.alloc (.cells #[.int .i64 0, .int .i64 0, .int .i64 0, .int .i64 0, .int .i64 0, .int .i64 0, .int .i64 0, .int .i64 0, .int .i64 0, .int .i64 0, .int .i64 0, .int .i64 0, .int .i64 0, .int .i64 0, .int .i64 0, .int .i64 0] 3)) := by kernel_rfl
attribute [go_sem] mk16
/-- The two stores of a frame that is given back. -/
theorem KIn.drop {B g : Nat} {w : World} {y : KV} {K : Ker} {gu un uc gc cn cc fr : Nat} (h : KIn B w g y K) (hu : y.m.f.u = .slice (some ⟨gu, 0, none⟩) un uc) (hc : y.m.f.c = .slice (some ⟨gc, 0, none⟩) cn cc) (hl : fr < K.m.f.cells.length) (hB : B ≤ w.heap.size)
    {w1 : World} {v : Value} (hw1 : Below (w.setCell ⟨gu, fr, none⟩ (.bool false)).heap.size (w.setCell ⟨gu, fr, none⟩ (.bool false)) w1) (hv : OwnI B w1 v (List.replicate 16 0)) (hnew : ∀ b, v.ownBlock = some b → w.heap.size ≤ b) :
    KIn B (w1.setCell ⟨gc, fr, none⟩ v) g ⟨⟨⟨y.m.f.c, y.m.f.u, y.m.f.vs.set fr v⟩, y.m.e⟩, y.r⟩ (withF K (dropF K.m.f fr)) := by
  have h1 := h.own.m.f.setUsed hu fr false
  have s1 : (w.setCell ⟨gu, fr, none⟩ (.bool false)).heap.size = w.heap.size := by simp
  have h2 := FOwn.below h1.1 hw1
  have hfar : ∀ b, v.ownBlock = some b → b ∉ blocks y.all ∧ b ≠ g := fun b hb => by
    have h3 := hnew b hb
    exact ⟨fun hm => by have := (h.own.lts b hm).2; omega, fun e => by have := h.box.lt; omega⟩
  have h3 := FOwn.setRowVal h2 hc hl hv fun b hb hm => (hfar b hb).1 (mem_all hm)
  have t1 : Touch (blocks [y.m.f.u]) w w1 := h1.2.trans (touch_of_below hw1 _)
  have t2 : Touch (blocks [y.m.f.u] ++ blocks [y.m.f.c]) w (w1.setCell ⟨gc, fr, none⟩ v) := (t1.mono fun b hb => List.mem_append_left _ hb).trans (h3.2.mono fun b hb => List.mem_append_right _ hb)
  refine KIn.setF h t2 (fun b hb => ?_) h3.1 (fun b hb => ?_) rfl rfl
  · rcases List.mem_append.1 hb with hb | hb
    · exact mem_u _ b hb
    · exact mem_c _ b hb
  · rw [show (FV.mk y.m.f.c y.m.f.u (y.m.f.vs.set fr v)).all = [y.m.f.u] ++ ([y.m.f.c] ++ y.m.f.vs.set fr v) from rfl, blocks_append, blocks_append, List.mem_append, List.mem_append] at hb
    rcases hb with hb | hb | hb
    · exact .inl (mem_u _ b hb)
    · exact .inl (mem_c _ b hb)
    · rcases blocks_set b hb with h4 | h4
      · exact .inl (sub_right [y.m.f.u] _ b (blocks_sub (fun u hu => List.mem_cons_of_mem _ hu) b h4))
      · exact .inr (hfar b h4)


end Go.Proofs.Ytobechjagckdfaa
/-
  A page is unmapped: the program's function and the reference's.
-/
set_option linter.unusedVariables false
set_option linter.unusedSimpArgs false
namespace Go.Proofs.Ytobechjagckdfaa
open Go.RowKit
theorem can_ok {K : Ker} (h : canCall K = true) : framesOk K.m.f = true ∧ tableOk K.m.ents K.m.f.used.length = true := by
  have h0 : kernelOk K = true := by unfold canCall at h; simp only [Bool.and_eq_true] at h; exact h.2
  have h1 : machineOk K.m = true := by rw [kernelOk_eq] at h0; simp only [Bool.and_eq_true] at h0; first | exact h0.2 | exact h0.1.2 | exact h0.1.1.2
  unfold machineOk at h1
  simp only [Bool.and_eq_true] at h1
  exact h1.1
theorem can_len {K : Ker} (h : canCall K = true) : K.m.f.used.length = K.m.f.cells.length ∧ K.m.f.cells.length ≤ 32 ∧ K.m.ents.length ≤ 32 := by
  obtain ⟨h1, h2⟩ := can_ok h
  unfold framesOk at h1
  unfold tableOk at h2
  simp only [Bool.and_eq_true, between_iff, beq_iff_eq] at h1 h2
  omega
/-- Where a mapped page lies. -/
theorem mapped_frame {K : Ker} {p : Int} (h : canCall K = true) (hm : mappedB K.m.ents p = true) : ∃ (k : Nat) (em : Int) (fr : Nat), p = k ∧ K.m.ents[k]? = some ⟨em, fr⟩ ∧ pageEntry K.m.ents p = ⟨em, fr⟩ ∧ fr < K.m.f.used.length ∧ fr < K.m.f.cells.length ∧ K.m.ents.length ≤ 1048576 := by
  obtain ⟨k, en, rfl, hen, hpe⟩ := mapped_in hm
  have hl := can_len h
  have ht := (can_ok h).2
  unfold tableOk at ht
  simp only [Bool.and_eq_true] at ht
  have he := allTo_iff.1 ht.1 k (getx_lt hen)
  rw [getD_of hen] at he
  unfold mappedB at hm
  rw [hpe] at hm
  unfold entOk at he
  simp only [Bool.and_eq_true, Bool.not_eq_true', Bool.and_eq_false_iff, decide_eq_true_eq, decide_eq_false_iff_not, between_iff] at he
  have hn : (en.m != 0) = true := hm
  obtain ⟨m, f⟩ := en
  dsimp only at *
  have hf0 : 0 ≤ f := he.1.1.2
  have hf1 : f < K.m.f.used.length := by
    rcases he.2 with h5 | h5
    · rw [hn] at h5; cases h5
    · omega
  obtain ⟨fr, rfl⟩ := Int.eq_ofNat_of_zero_le hf0
  exact ⟨k, m, fr, rfl, hen, hpe, by omega, by omega, by omega⟩

end Go.Proofs.Ytobechjagckdfaa
/-
  A new page of a kernel behind a pointer, by the reference: nothing but the kernel is written.
-/
set_option linter.unusedVariables false
set_option linter.unusedSimpArgs false
namespace Go.Proofs.Ytobechjagckdfaa
open Go.RowKit
set_option maxRecDepth 20000 in
set_option maxHeartbeats 3200000 in
theorem s_l08NewT (B g : Nat) (y : KV) (K : Ker) (p : Int) (hcan : canCall K = true) (w : World) (h : KIn B w g y K) : Calls Try.prog 45 #[.pointer (some ⟨g, 0, none⟩), .int .i64 p] w (KDoneT B g y w (newB K p) (mapNewS K p)) := by
  have HI := Lib.hid h
  obtain ⟨SS, hSS⟩ : ∃ S, S = g :: blocks y.all := ⟨_, rfl⟩
  have HSS := Lib.hid hSS
  clear hSS
  obtain ⟨yco, ycc, yuo, yuc, yvs, yeo, yec, yro, yrc, rfl⟩ := h.own.shapes
  have hle9 : K.m.ents.length ≤ 9223372036854775807 := by have := (can_len hcan).2.2; omega
  have hul9 : K.m.f.used.length ≤ 9223372036854775807 := by have := can_len hcan; omega
  clear h
  obtain ⟨xg, c0, c1, c2, c3, c4, f0, f1, f2, f3, f4⟩ := HI.out.box
  dsimp only at c0 c1 c2
  have CALL := Lib.hid (fun y W (h : KIn B W g y K) => s_l08CallT B g y K (canCall_calls hcan) W h)
  obtain ⟨fi, hfi⟩ : ∃ fi, fi = freeIx K.m.f.used := ⟨_, rfl⟩
  have HFX := Lib.hid hfi.symm
  cases h2 : grantedB K
  · rw [h2] at CALL
    have HE : Hid (newB K p = false ∧ mapNewS K p = countedK K) := by unfold Hid mapNewS newB; rw [h2]; exact ⟨rfl, rfl⟩
    rw [HE.out.1, HE.out.2]
    (have hall := all_nil w; go_enter Try.func45, Try.ntmps45)
    go_wp2_with (first | (go_at_call 70; (refine (s_l05Free _ _ K.m.f.used _ (SlAt.below (HI.out.own.m.f.used.at lenBool) (by exact bel))).mono ?_; rintro e w2 ⟨rfl, hb⟩; (try rw [HFX.out]); have HB0 := Lib.hid hb; (have K2x := HI.out.below hb); clear hb; have KI0 := Lib.hid K2x; clear K2x; have HT0 := Lib.hid (touch_of_below HB0.out SS); obtain ⟨w0, rfl⟩ : ∃ x, x = w2 := ⟨_, rfl⟩)) | (go_at_call 71; (refine (CALL.out _ _ KI0.out).mono ?_; rintro e w2 ⟨rfl, hki, hb, ht⟩; (rw [← HSS.out] at ht); (have HT1 := Lib.hid (HT0.out.trans ht)); clear ht HT0; (have hB0 := HB0.out); (have HB1 := Lib.hid ((hB0.mono (by have := HI.out.hB; have := HI.out.box.lt; omega)).trans hb)); clear hB0 hb; have KI := Lib.hid hki; (obtain ⟨xg, c0, c1, c2, c3, c4, f0, f1, f2, f3, f4⟩ := hki.box); (dsimp only at c2); clear hki; obtain ⟨wa, rfl⟩ : ∃ x, x = w2 := ⟨_, rfl⟩)) | (go_at_call 28; (first | (refine (s_l01In _ _ _ true (by assumption) _).mono ?_) | (refine (s_l01In _ _ _ false (by assumption) _).mono ?_) | (refine (s_l01In _ _ _ _ rfl _).mono ?_)); rintro e w2 ⟨rfl, rfl⟩) | (with_reducible refine wp_region_grew2 (by kernel_rfl) (by kernel_rfl) ?_; intro w2 hb; (first | have hn := nw4 hb hall (by exact zo) | have hn := nw3 hb hall (by exact zo) | have hn := nw2 hb hall (by exact zo) | have hn := nw1 hb hall (by exact zo) | have hn := nw0 hb hall (by exact zo)); obtain ⟨hc, hf, hn, hc0⟩ := hn; replace hall := hn; clear hn; have hz := hb.size; (try simp only [World.size_alloc, World.size_setCell, World.size_drew] at hz); have hx := hall; (try simp only [allLt, and_true] at hx); obtain ⟨w1, rfl⟩ : ∃ x, x = w2 := ⟨_, rfl⟩; (repeat (go_big_quiet_step (first | (go_at_call 28; first | exact calls_same (s_l01In _ _ _ true (by assumption) _) | exact calls_same (s_l01In _ _ _ false (by assumption) _) | exact calls_same (s_l01In _ _ _ _ rfl _))))); refine wpQuiet_nil ?_; intro w2 hw'; have hb := grew_below hw'; clear hw'; (first | have hn := nw4 hb hall (by exact zo) | have hn := nw3 hb hall (by exact zo) | have hn := nw2 hb hall (by exact zo) | have hn := nw1 hb hall (by exact zo) | have hn := nw0 hb hall (by exact zo)); obtain ⟨hc, hf, hn, hc0⟩ := hn; replace hall := hn; clear hn; have hz := hb.size; (try simp only [World.size_alloc, World.size_setCell, World.size_drew] at hz); have hx := hall; (try simp only [allLt, and_true] at hx); obtain ⟨w1, rfl⟩ : ∃ x, x = w2 := ⟨_, rfl⟩))
    go_ret
    have hz := HI.out.box.lt; have hBg := HI.out.hB; have hs1 := HB1.out.size; have hB1 := HB1.out
    exact ⟨_, rfl, KI.out, by exact bel, HSS.out ▸ HT1.out, fun b hb => .inl hb⟩
  · rw [h2] at CALL
    cases h4 : between p 0 (K.m.ents.length - 1)
    · have HE : Hid (newB K p = false ∧ mapNewS K p = countedK K) := by unfold Hid mapNewS newB; rw [h2, h4]; exact ⟨rfl, rfl⟩
      rw [HE.out.1, HE.out.2]
      (have hall := all_nil w; go_enter Try.func45, Try.ntmps45)
      go_wp2_with (first | (go_at_call 70; (refine (s_l05Free _ _ K.m.f.used _ (SlAt.below (HI.out.own.m.f.used.at lenBool) (by exact bel))).mono ?_; rintro e w2 ⟨rfl, hb⟩; (try rw [HFX.out]); have HB0 := Lib.hid hb; (have K2x := HI.out.below hb); clear hb; have KI0 := Lib.hid K2x; clear K2x; have HT0 := Lib.hid (touch_of_below HB0.out SS); obtain ⟨w0, rfl⟩ : ∃ x, x = w2 := ⟨_, rfl⟩)) | (go_at_call 71; (refine (CALL.out _ _ KI0.out).mono ?_; rintro e w2 ⟨rfl, hki, hb, ht⟩; (rw [← HSS.out] at ht); (have HT1 := Lib.hid (HT0.out.trans ht)); clear ht HT0; (have hB0 := HB0.out); (have HB1 := Lib.hid ((hB0.mono (by have := HI.out.hB; have := HI.out.box.lt; omega)).trans hb)); clear hB0 hb; have KI := Lib.hid hki; (obtain ⟨xg, c0, c1, c2, c3, c4, f0, f1, f2, f3, f4⟩ := hki.box); (dsimp only at c2); clear hki; obtain ⟨wa, rfl⟩ : ∃ x, x = w2 := ⟨_, rfl⟩)) | (go_at_call 28; (first | (refine (s_l01In _ _ _ true (by assumption) _).mono ?_) | (refine (s_l01In _ _ _ false (by assumption) _).mono ?_) | (refine (s_l01In _ _ _ _ rfl _).mono ?_)); rintro e w2 ⟨rfl, rfl⟩) | (with_reducible refine wp_region_grew2 (by kernel_rfl) (by kernel_rfl) ?_; intro w2 hb; (first | have hn := nw4 hb hall (by exact zo) | have hn := nw3 hb hall (by exact zo) | have hn := nw2 hb hall (by exact zo) | have hn := nw1 hb hall (by exact zo) | have hn := nw0 hb hall (by exact zo)); obtain ⟨hc, hf, hn, hc0⟩ := hn; replace hall := hn; clear hn; have hz := hb.size; (try simp only [World.size_alloc, World.size_setCell, World.size_drew] at hz); have hx := hall; (try simp only [allLt, and_true] at hx); obtain ⟨w1, rfl⟩ : ∃ x, x = w2 := ⟨_, rfl⟩; (repeat (go_big_quiet_step (first | (go_at_call 28; first | exact calls_same (s_l01In _ _ _ true (by assumption) _) | exact calls_same (s_l01In _ _ _ false (by assumption) _) | exact calls_same (s_l01In _ _ _ _ rfl _))))); refine wpQuiet_nil ?_; intro w2 hw'; have hb := grew_below hw'; clear hw'; (first | have hn := nw4 hb hall (by exact zo) | have hn := nw3 hb hall (by exact zo) | have hn := nw2 hb hall (by exact zo) | have hn := nw1 hb hall (by exact zo) | have hn := nw0 hb hall (by exact zo)); obtain ⟨hc, hf, hn, hc0⟩ := hn; replace hall := hn; clear hn; have hz := hb.size; (try simp only [World.size_alloc, World.size_setCell, World.size_drew] at hz); have hx := hall; (try simp only [allLt, and_true] at hx); obtain ⟨w1, rfl⟩ : ∃ x, x = w2 := ⟨_, rfl⟩))
      go_ret
      have hz := HI.out.box.lt; have hBg := HI.out.hB; have hs1 := HB1.out.size; have hB1 := HB1.out
      exact ⟨_, rfl, KI.out, by exact bel, HSS.out ▸ HT1.out, fun b hb => .inl hb⟩
    · cases h5 : mappedB K.m.ents p
      · have HM := Lib.hid (mapped_not h5)
        cases h3 : decide (0 ≤ freeIx K.m.f.used)
        · have hneg : fi < 0 := by rw [hfi]; simpa using h3
          have HE : Hid (newB K p = false ∧ mapNewS K p = countedK K) := by unfold Hid mapNewS newB; rw [h2, h4, h5, h3]; exact ⟨rfl, rfl⟩
          rw [HE.out.1, HE.out.2]
          (have hall := all_nil w; go_enter Try.func45, Try.ntmps45)
          go_wp2_with (first | (go_at_call 70; (refine (s_l05Free _ _ K.m.f.used _ (SlAt.below (HI.out.own.m.f.used.at lenBool) (by exact bel))).mono ?_; rintro e w2 ⟨rfl, hb⟩; (try rw [HFX.out]); have HB0 := Lib.hid hb; (have K2x := HI.out.below hb); clear hb; have KI0 := Lib.hid K2x; clear K2x; have HT0 := Lib.hid (touch_of_below HB0.out SS); obtain ⟨w0, rfl⟩ : ∃ x, x = w2 := ⟨_, rfl⟩)) | (go_at_call 71; (refine (CALL.out _ _ KI0.out).mono ?_; rintro e w2 ⟨rfl, hki, hb, ht⟩; (rw [← HSS.out] at ht); (have HT1 := Lib.hid (HT0.out.trans ht)); clear ht HT0; (have hB0 := HB0.out); (have HB1 := Lib.hid ((hB0.mono (by have := HI.out.hB; have := HI.out.box.lt; omega)).trans hb)); clear hB0 hb; have KI := Lib.hid hki; (obtain ⟨xg, c0, c1, c2, c3, c4, f0, f1, f2, f3, f4⟩ := hki.box); (dsimp only at c2); clear hki; obtain ⟨wa, rfl⟩ : ∃ x, x = w2 := ⟨_, rfl⟩)) | (go_at_call 72; (refine (s_mode KI.out p).mono ?_; rintro e w2 ⟨rfl, hb⟩; (try rw [HM.out]); (have hB1 := HB1.out; replace HB1 := Lib.hid (hB1.trans (hb.mono (by have := HI.out.hB; have := HI.out.box.lt; have := hB1.size; omega))); clear hB1); (have hT1 := HT1.out; replace HT1 := Lib.hid (hT1.trans (touch_of_below hb SS)); clear hT1); (have K2x := KI.out.below hb); clear KI; have KI := Lib.hid K2x; clear hb K2x; obtain ⟨wb, rfl⟩ : ∃ x, x = w2 := ⟨_, rfl⟩)) | (go_at_call 28; (first | (refine (s_l01In _ _ _ true (by assumption) _).mono ?_) | (refine (s_l01In _ _ _ false (by assumption) _).mono ?_) | (refine (s_l01In _ _ _ _ rfl _).mono ?_)); rintro e w2 ⟨rfl, rfl⟩) | (with_reducible refine wp_region_grew2 (by kernel_rfl) (by kernel_rfl) ?_; intro w2 hb; (first | have hn := nw4 hb hall (by exact zo) | have hn := nw3 hb hall (by exact zo) | have hn := nw2 hb hall (by exact zo) | have hn := nw1 hb hall (by exact zo) | have hn := nw0 hb hall (by exact zo)); obtain ⟨hc, hf, hn, hc0⟩ := hn; replace hall := hn; clear hn; have hz := hb.size; (try simp only [World.size_alloc, World.size_setCell, World.size_drew] at hz); have hx := hall; (try simp only [allLt, and_true] at hx); obtain ⟨w1, rfl⟩ : ∃ x, x = w2 := ⟨_, rfl⟩; (repeat (go_big_quiet_step (first | (go_at_call 28; first | exact calls_same (s_l01In _ _ _ true (by assumption) _) | exact calls_same (s_l01In _ _ _ false (by assumption) _) | exact calls_same (s_l01In _ _ _ _ rfl _))))); refine wpQuiet_nil ?_; intro w2 hw'; have hb := grew_below hw'; clear hw'; (first | have hn := nw4 hb hall (by exact zo) | have hn := nw3 hb hall (by exact zo) | have hn := nw2 hb hall (by exact zo) | have hn := nw1 hb hall (by exact zo) | have hn := nw0 hb hall (by exact zo)); obtain ⟨hc, hf, hn, hc0⟩ := hn; replace hall := hn; clear hn; have hz := hb.size; (try simp only [World.size_alloc, World.size_setCell, World.size_drew] at hz); have hx := hall; (try simp only [allLt, and_true] at hx); obtain ⟨w1, rfl⟩ : ∃ x, x = w2 := ⟨_, rfl⟩))
          go_ret
          have hz := HI.out.box.lt; have hBg := HI.out.hB; have hs1 := HB1.out.size; have hB1 := HB1.out
          exact ⟨_, rfl, KI.out, by exact bel, HSS.out ▸ HT1.out, fun b hb => .inl hb⟩
        · have hbb := between_iff.1 h4
          obtain ⟨k, rfl⟩ := Int.eq_ofNat_of_zero_le hbb.1
          have hkl : k < K.m.ents.length := by omega
          obtain ⟨⟨em, ef⟩, hen⟩ := getx hkl
          have hlt' : (k : Int) < K.m.ents.length := by omega
          obtain ⟨i, hi, hui⟩ := freeIx_lt (by simpa using h3)
          have hil := getx_lt hui
          have hil' : (i : Int) < K.m.f.used.length := by omega
          have HE : Hid (newB K k = true ∧ mapNewS K k = setEnt (withF (countedK K) ⟨K.m.f.cells, K.m.f.used.set i true⟩) k ⟨2, i⟩) := by
            have e : newB K k = true := by unfold newB; rw [h2, h4, h5, h3]; rfl
            refine ⟨e, ?_⟩
            unfold mapNewS
            rw [e, hi, if_pos rfl, Int.toNat_natCast]
          rw [HE.out.1, HE.out.2]
          have hfi0 : fi = (i : Int) := by rw [hfi, hi]
          subst hfi0
          have HN := Lib.hid hen; have HKL := Lib.hid hkl; have HUI := Lib.hid hui; have HIL := Lib.hid hil
          obtain ⟨ge, gec, hge, -, -⟩ := Own.addr HI.out.own.m.ents (show 0 < K.m.ents.length by omega)
          simp only [Value.slice.injEq] at hge
          obtain ⟨rfl, -, rfl⟩ := hge
          obtain ⟨gu, guc, hgu, -, -⟩ := Own.addr HI.out.own.m.f.used (show 0 < K.m.f.used.length by omega)
          simp only [Value.slice.injEq] at hgu
          obtain ⟨rfl, -, rfl⟩ := hgu
          clear hen hkl hbb hi hui hil hfi h3
          (have hall := all_nil w; go_enter Try.func45, Try.ntmps45)
          go_wp2_with (first | (go_at_call 70; (refine (s_l05Free _ _ K.m.f.used _ (SlAt.below (HI.out.own.m.f.used.at lenBool) (by exact bel))).mono ?_; rintro e w2 ⟨rfl, hb⟩; (try rw [HFX.out]); have HB0 := Lib.hid hb; (have K2x := HI.out.below hb); clear hb; have KI0 := Lib.hid K2x; clear K2x; have HT0 := Lib.hid (touch_of_below HB0.out SS); obtain ⟨w0, rfl⟩ : ∃ x, x = w2 := ⟨_, rfl⟩)) | (go_at_call 71; (refine (CALL.out _ _ KI0.out).mono ?_; rintro e w2 ⟨rfl, hki, hb, ht⟩; (rw [← HSS.out] at ht); (have HT1 := Lib.hid (HT0.out.trans ht)); clear ht HT0; (have hB0 := HB0.out); (have HB1 := Lib.hid ((hB0.mono (by have := HI.out.hB; have := HI.out.box.lt; omega)).trans hb)); clear hB0 hb; have KI := Lib.hid hki; (obtain ⟨xg, c0, c1, c2, c3, c4, f0, f1, f2, f3, f4⟩ := hki.box); (dsimp only at c2); clear hki; obtain ⟨wa, rfl⟩ : ∃ x, x = w2 := ⟨_, rfl⟩)) | (go_at_call 72; (refine (s_mode KI.out k).mono ?_; rintro e w2 ⟨rfl, hb⟩; (try rw [HM.out]); (have hB1 := HB1.out; replace HB1 := Lib.hid (hB1.trans (hb.mono (by have := HI.out.hB; have := HI.out.box.lt; have := hB1.size; omega))); clear hB1); (have hT1 := HT1.out; replace HT1 := Lib.hid (hT1.trans (touch_of_below hb SS)); clear hT1); (have K2x := KI.out.below hb); clear KI; have KI := Lib.hid K2x; (obtain ⟨xg, c0, c1, c2, c3, c4, f0, f1, f2, f3, f4⟩ := K2x.box); (dsimp only at c1 c2); (obtain ⟨hBge, xge, e0, z0, e1, z1⟩ := OwnEnt.slot K2x.own.m.ents HN.out); (obtain ⟨hBu, xu, eu, zu⟩ := OwnB.slotB K2x.own.m.f.used HUI.out); (obtain ⟨n1, n2⟩ := K2x.neU rfl); (obtain ⟨n3, n4⟩ := K2x.neE rfl); (obtain ⟨n6, n7⟩ := neUE K2x.own rfl rfl); clear hb K2x; obtain ⟨wb, rfl⟩ : ∃ x, x = w2 := ⟨_, rfl⟩)) | (go_at_call 28; (first | (refine (s_l01In _ _ _ true (by assumption) _).mono ?_) | (refine (s_l01In _ _ _ false (by assumption) _).mono ?_) | (refine (s_l01In _ _ _ _ rfl _).mono ?_)); rintro e w2 ⟨rfl, rfl⟩) | (with_reducible refine wp_region_grew2 (by kernel_rfl) (by kernel_rfl) ?_; intro w2 hb; (first | have hn := nw4 hb hall (by exact zo) | have hn := nw3 hb hall (by exact zo) | have hn := nw2 hb hall (by exact zo) | have hn := nw1 hb hall (by exact zo) | have hn := nw0 hb hall (by exact zo)); obtain ⟨hc, hf, hn, hc0⟩ := hn; replace hall := hn; clear hn; have hz := hb.size; (try simp only [World.size_alloc, World.size_setCell, World.size_drew] at hz); have hx := hall; (try simp only [allLt, and_true] at hx); obtain ⟨w1, rfl⟩ : ∃ x, x = w2 := ⟨_, rfl⟩; (repeat (go_big_quiet_step (first | (go_at_call 28; first | exact calls_same (s_l01In _ _ _ true (by assumption) _) | exact calls_same (s_l01In _ _ _ false (by assumption) _) | exact calls_same (s_l01In _ _ _ _ rfl _))))); refine wpQuiet_nil ?_; intro w2 hw'; have hb := grew_below hw'; clear hw'; (first | have hn := nw4 hb hall (by exact zo) | have hn := nw3 hb hall (by exact zo) | have hn := nw2 hb hall (by exact zo) | have hn := nw1 hb hall (by exact zo) | have hn := nw0 hb hall (by exact zo)); obtain ⟨hc, hf, hn, hc0⟩ := hn; replace hall := hn; clear hn; have hz := hb.size; (try simp only [World.size_alloc, World.size_setCell, World.size_drew] at hz); have hx := hall; (try simp only [allLt, and_true] at hx); obtain ⟨w1, rfl⟩ : ∃ x, x = w2 := ⟨_, rfl⟩))
          skip
          go_ret
          have hz := HI.out.box.lt; have hBg := HI.out.hB; have hs1 := HB1.out.size; have hB1 := HB1.out
          have KU := KIn.setUsed KI.out rfl i true
          have KE := KIn.setEnt KU rfl HKL.out 2 i
          have mg : g ∈ SS := by rw [HSS.out]; exact List.mem_cons_self ..
          have me : ge ∈ SS := by rw [HSS.out]; exact List.mem_cons_of_mem _ (mem_blocks.2 ⟨.slice (some ⟨ge, 0, none⟩) K.m.ents.length yec, by simp [KV.all, MV.all], rfl⟩)
          have mu : gu ∈ SS := by rw [HSS.out]; exact List.mem_cons_of_mem _ (mem_blocks.2 ⟨.slice (some ⟨gu, 0, none⟩) K.m.f.used.length yuc, by simp [KV.all, MV.all, FV.all], rfl⟩)
          refine ⟨_, rfl, KE, by exact bel, ?_, fun b hb => .inl hb⟩
          rw [← HSS.out]
          repeat (first | (with_reducible refine touch_cellT ?_ me) | (with_reducible refine touch_cellT ?_ mu) | (with_reducible refine touch_drw ?_))
          exact HT1.out
      · have HM : Hid ((pageEntry K.m.ents p).m = (pageEntry K.m.ents p).m) := rfl
        have hmm : ((pageEntry K.m.ents p).m != 0) = true := h5
        have HE : Hid (newB K p = false ∧ mapNewS K p = countedK K) := by unfold Hid mapNewS newB; rw [h2, h4, h5]; exact ⟨rfl, rfl⟩
        rw [HE.out.1, HE.out.2]
        (have hall := all_nil w; go_enter Try.func45, Try.ntmps45)
        go_wp2_with (first | (go_at_call 70; (refine (s_l05Free _ _ K.m.f.used _ (SlAt.below (HI.out.own.m.f.used.at lenBool) (by exact bel))).mono ?_; rintro e w2 ⟨rfl, hb⟩; (try rw [HFX.out]); have HB0 := Lib.hid hb; (have K2x := HI.out.below hb); clear hb; have KI0 := Lib.hid K2x; clear K2x; have HT0 := Lib.hid (touch_of_below HB0.out SS); obtain ⟨w0, rfl⟩ : ∃ x, x = w2 := ⟨_, rfl⟩)) | (go_at_call 71; (refine (CALL.out _ _ KI0.out).mono ?_; rintro e w2 ⟨rfl, hki, hb, ht⟩; (rw [← HSS.out] at ht); (have HT1 := Lib.hid (HT0.out.trans ht)); clear ht HT0; (have hB0 := HB0.out); (have HB1 := Lib.hid ((hB0.mono (by have := HI.out.hB; have := HI.out.box.lt; omega)).trans hb)); clear hB0 hb; have KI := Lib.hid hki; (obtain ⟨xg, c0, c1, c2, c3, c4, f0, f1, f2, f3, f4⟩ := hki.box); (dsimp only at c2); clear hki; obtain ⟨wa, rfl⟩ : ∃ x, x = w2 := ⟨_, rfl⟩)) | (go_at_call 72; (refine (s_mode KI.out p).mono ?_; rintro e w2 ⟨rfl, hb⟩; (try rw [HM.out]); (have hB1 := HB1.out; replace HB1 := Lib.hid (hB1.trans (hb.mono (by have := HI.out.hB; have := HI.out.box.lt; have := hB1.size; omega))); clear hB1); (have hT1 := HT1.out; replace HT1 := Lib.hid (hT1.trans (touch_of_below hb SS)); clear hT1); (have K2x := KI.out.below hb); clear KI; have KI := Lib.hid K2x; clear hb K2x; obtain ⟨wb, rfl⟩ : ∃ x, x = w2 := ⟨_, rfl⟩)) | (go_at_call 28; (first | (refine (s_l01In _ _ _ true (by assumption) _).mono ?_) | (refine (s_l01In _ _ _ false (by assumption) _).mono ?_) | (refine (s_l01In _ _ _ _ rfl _).mono ?_)); rintro e w2 ⟨rfl, rfl⟩) | (with_reducible refine wp_region_grew2 (by kernel_rfl) (by kernel_rfl) ?_; intro w2 hb; (first | have hn := nw4 hb hall (by exact zo) | have hn := nw3 hb hall (by exact zo) | have hn := nw2 hb hall (by exact zo) | have hn := nw1 hb hall (by exact zo) | have hn := nw0 hb hall (by exact zo)); obtain ⟨hc, hf, hn, hc0⟩ := hn; replace hall := hn; clear hn; have hz := hb.size; (try simp only [World.size_alloc, World.size_setCell, World.size_drew] at hz); have hx := hall; (try simp only [allLt, and_true] at hx); obtain ⟨w1, rfl⟩ : ∃ x, x = w2 := ⟨_, rfl⟩; (repeat (go_big_quiet_step (first | (go_at_call 28; first | exact calls_same (s_l01In _ _ _ true (by assumption) _) | exact calls_same (s_l01In _ _ _ false (by assumption) _) | exact calls_same (s_l01In _ _ _ _ rfl _))))); refine wpQuiet_nil ?_; intro w2 hw'; have hb := grew_below hw'; clear hw'; (first | have hn := nw4 hb hall (by exact zo) | have hn := nw3 hb hall (by exact zo) | have hn := nw2 hb hall (by exact zo) | have hn := nw1 hb hall (by exact zo) | have hn := nw0 hb hall (by exact zo)); obtain ⟨hc, hf, hn, hc0⟩ := hn; replace hall := hn; clear hn; have hz := hb.size; (try simp only [World.size_alloc, World.size_setCell, World.size_drew] at hz); have hx := hall; (try simp only [allLt, and_true] at hx); obtain ⟨w1, rfl⟩ : ∃ x, x = w2 := ⟨_, rfl⟩))
        go_ret
        have hz := HI.out.box.lt; have hBg := HI.out.hB; have hs1 := HB1.out.size; have hB1 := HB1.out
        exact ⟨_, rfl, KI.out, by exact bel, HSS.out ▸ HT1.out, fun b hb => .inl hb⟩

end Go.Proofs.Ytobechjagckdfaa
