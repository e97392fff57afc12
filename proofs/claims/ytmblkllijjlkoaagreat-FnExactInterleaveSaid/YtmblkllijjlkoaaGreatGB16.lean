/-
  Texts put together: KMark, PlanM.
-/
import Derived.Test.YtmblkllijjlkoaaGreatGB15
/-
  The laws' functions on frames, tables, machines, kernels: marked, held.
-/
set_option linter.unusedVariables false
set_option linter.unusedSimpArgs false
namespace Go.Proofs.YtmblkllijjlkoaaGreat
open Go.RowKit
def cntF (F : Frm) : Nat := tot F.cells + F.used.length
def cntM (M : Mac) : Nat := cntF M.f + 2 * M.ents.length
def cntK (K : Ker) : Nat := cntM K.m + K.refuse.length
def markF (k : Int) (F : Frm) : Frm := ⟨markRows k F.cells, marksG mkB 1 (k + tot F.cells) F.used.length⟩
def markM (k : Int) (M : Mac) : Mac := ⟨markF k M.f, marksG mkEnt 2 (k + cntF M.f) M.ents.length⟩
def markK (k : Int) (K : Ker) : Ker := ⟨markM k K.m, K.calls, marksI (k + cntM K.m) K.refuse.length⟩
theorem grown_touch1 {w w' : World} {v : Value} (h : w.grownBy w' v.ownBlock) : Touch (blocks [v]) w w' := grown_touch h fun g hg => mem_one hg
theorem markBool' (B : Nat) (va : Value) (xs : List Bool) (k : Int) (hk : 0 ≤ k ∧ k + xs.length ≤ 9223372036854775807) (w : World) (ha : OwnB B w va xs) : Calls Tryz.prog 148 #[va, .int .i64 k] w fun e w' => e = .returned (.int .i64 (k + xs.length)) ∧ OwnB B w' va (marksG mkB 1 k xs.length) ∧ Touch (blocks [va]) w w' :=
  (l_markBoolS B va xs k hk w ha).mono fun _ _ ⟨he, ho, hg⟩ => ⟨he, ho, grown_touch1 hg⟩
theorem markInt' (B : Nat) (va : Value) (xs : List Int) (k : Int) (hk : 0 ≤ k ∧ k + xs.length ≤ 9223372036854775807) (w : World) (ha : OwnI B w va xs) : Calls Tryz.prog 42 #[va, .int .i64 k] w fun e w' => e = .returned (.int .i64 (k + xs.length)) ∧ OwnI B w' va (marksI k xs.length) ∧ Touch (blocks [va]) w w' :=
  (l_markIntS B va xs k hk w ha).mono fun _ _ ⟨he, ho, hg⟩ => ⟨he, ho, grown_touch1 hg⟩
theorem markRows' (B : Nat) (c : Value) (vs : List Value) (rows : List (List Int)) (k : Int) (hk : 0 ≤ k ∧ k + tot rows ≤ 9223372036854775807) (w : World) (ha : OwnR B w c vs rows) (hnd : (blocks (c :: vs)).Nodup) : Calls Tryz.prog 147 #[c, .int .i64 k] w fun e w' => e = .returned (.int .i64 (k + tot rows)) ∧ OwnR B w' c vs (markRows k rows) ∧ Touch (blocks (c :: vs)) w w' :=
  (l_markIntSS B c vs rows k hk w ha hnd).mono fun _ _ ⟨he, ho, hg⟩ => ⟨he, ho, hg.mono (blocks_sub fun v hv => List.mem_cons_of_mem _ hv)⟩
theorem Own.touchs {α : Type} {E k B : Nat} {f : α → List Value} {w w' : World} {v : Value} {xs : List α} {S : List Nat} (h : Own E k f B w v xs) (ht : Touch S w w') (hne : ∀ g ∈ blocks [v], g ∉ S) : Own E k f B w' v xs :=
  h.touch ht fun g hg => hne g (mem_one hg)
theorem apart_symm {l m : List Nat} (h : ∀ g ∈ l, g ∉ m) : ∀ g ∈ m, g ∉ l := fun g hm hl => h g hl hm
theorem l_markFrames (B : Nat) (x : FV) (F : Frm) (k : Int) (hk : 0 ≤ k ∧ k + cntF F ≤ 9223372036854775807) (w : World) (ha : FOwn B w x F) : Calls Tryz.prog 105 #[x.val, .int .i64 k] w fun e w' => e = .returned (.int .i64 (k + cntF F)) ∧ FOwn B w' x (markF k F) ∧ Touch (blocks x.all) w w' := by
  have ND := Lib.hid ha.nd
  have NR := Lib.hid (nodup_right (l := [x.u]) ha.nd)
  have AP := Lib.hid (nodup_apart (l := [x.u]) ha.nd)
  have LT := Lib.hid ha.rows.lt
  have H1 := Lib.hid ha.rows; have H2 := Lib.hid ha.used
  clear ha
  unfold cntF at *
  simp only [FV.val]
  have hk1 : 0 ≤ k ∧ k + tot F.cells ≤ 9223372036854775807 := by omega
  have hk2 : 0 ≤ k + tot F.cells ∧ k + tot F.cells + F.used.length ≤ 9223372036854775807 := by omega
  have K1 := Lib.hid hk1; have K2 := Lib.hid hk2; clear hk hk1 hk2
  (have hall := all_nil w; go_enter Tryz.func105, Tryz.ntmps105)
  go_wp2_with fail
  refine (markRows' B _ _ _ _ K1.out _ (OwnRows.below H1.out (by exact bel)) NR.out).mono ?_; rintro e w2 ⟨rfl, ho, ht⟩
  have k1 : w2.cell? ⟨w.heap.size, 1, none⟩ = some x.u := (ht.cell (by exact zt) (fun hm => by have := (LT.out _ hm).2; omega)).trans (by go_simp)
  have T1 := Lib.hid ht; have O1 := Lib.hid ho; clear ht ho
  obtain ⟨wa, rfl⟩ : ∃ x, x = w2 := ⟨_, rfl⟩
  go_wp2_with fail
  refine (markBool' B _ _ _ K2.out _ (Own.touchs (Own.below H2.out (w' := w.alloc _) (by exact bel)) T1.out AP.out)).mono ?_; rintro e w2 ⟨rfl, ho, ht⟩
  have T2 := Lib.hid ht; have O2 := Lib.hid ho; clear ht ho
  go_wp2_with fail
  go_ret
  refine ⟨ret_int (a := k + tot F.cells + F.used.length) (by omega), ⟨OwnRows.touch O1.out T2.out (apart_symm AP.out), O2.out, ND.out⟩, ?_⟩
  exact ((touch_of_below ((Below.refl _ _).alloc (Nat.le_refl _) _) _).trans (T1.out.mono (sub_right [x.u] _))).trans (T2.out.mono (sub_left [x.u] _))
theorem l_markTable (B : Nat) (v : Value) (es : List Ent) (k : Int) (hk : 0 ≤ k ∧ k + 2 * es.length ≤ 9223372036854775807) (w : World) (ha : OwnEnt B w v es) : Calls Tryz.prog 106 #[.agg #[v], .int .i64 k] w fun e w' => e = .returned (.int .i64 (k + 2 * es.length)) ∧ OwnEnt B w' v (marksG mkEnt 2 k es.length) ∧ Touch (blocks [v]) w w' := by
  have H1 := Lib.hid ha; have K1 := Lib.hid hk
  clear ha hk
  (have hall := all_nil w; go_enter Tryz.func106, Tryz.ntmps106)
  go_wp2_with fail
  refine (l_markEntryS B _ _ _ K1.out _ (Own.below H1.out (by exact bel))).mono ?_; rintro e w2 ⟨rfl, ho, ht⟩
  have T1 := Lib.hid ht; have O1 := Lib.hid ho; clear ht ho
  go_wp2_with fail
  go_ret
  exact ⟨rfl, O1.out, (touch_of_below ((Below.refl _ _).alloc (Nat.le_refl _) _) _).trans (grown_touch1 T1.out)⟩
theorem l_markMachine (B : Nat) (x : MV) (M : Mac) (k : Int) (hk : 0 ≤ k ∧ k + cntM M ≤ 9223372036854775807) (w : World) (ha : MOwn B w x M) : Calls Tryz.prog 60 #[x.val, .int .i64 k] w fun e w' => e = .returned (.int .i64 (k + cntM M)) ∧ MOwn B w' x (markM k M) ∧ Touch (blocks x.all) w w' := by
  have ND := Lib.hid ha.nd
  have AP := Lib.hid (nodup_apart (l := [x.e]) ha.nd)
  have LT := Lib.hid ha.f.lts
  have H1 := Lib.hid ha.f; have H2 := Lib.hid ha.ents
  clear ha
  unfold cntM at *
  simp only [MV.val]
  have hk1 : 0 ≤ k ∧ k + cntF M.f ≤ 9223372036854775807 := by omega
  have hk2 : 0 ≤ k + cntF M.f ∧ k + cntF M.f + 2 * M.ents.length ≤ 9223372036854775807 := by omega
  have K1 := Lib.hid hk1; have K2 := Lib.hid hk2; clear hk hk1 hk2
  (have hall := all_nil w; go_enter Tryz.func60, Tryz.ntmps60)
  go_wp2_with fail
  refine (l_markFrames B x.f M.f _ K1.out _ (FOwn.below H1.out (by exact bel))).mono ?_; rintro e w2 ⟨rfl, ho, ht⟩
  have k1 : w2.cell? ⟨w.heap.size, 2, none⟩ = some x.e := (ht.cell (by exact zt) (fun hm => by have := (LT.out _ hm).2; omega)).trans (by go_simp)
  have T1 := Lib.hid ht; have O1 := Lib.hid ho; clear ht ho
  obtain ⟨wa, rfl⟩ : ∃ x, x = w2 := ⟨_, rfl⟩
  go_wp2_with fail
  refine (l_markTable B _ _ _ K2.out _ (Own.touchs (Own.below H2.out (w' := w.alloc _) (by exact bel)) T1.out AP.out)).mono ?_; rintro e w2 ⟨rfl, ho, ht⟩
  have T2 := Lib.hid ht; have O2 := Lib.hid ho; clear ht ho
  go_wp2_with fail
  go_ret
  refine ⟨ret_int (a := k + cntF M.f + 2 * M.ents.length) (by omega), ⟨FOwn.touch O1.out T2.out (apart_symm AP.out), O2.out, ND.out⟩, ?_⟩
  exact ((touch_of_below ((Below.refl _ _).alloc (Nat.le_refl _) _) _).trans (T1.out.mono (sub_right [x.e] _))).trans (T2.out.mono (sub_left [x.e] _))
theorem l_markKernel (B : Nat) (x : KV) (K : Ker) (k : Int) (hk : 0 ≤ k ∧ k + cntK K ≤ 9223372036854775807) (w : World) (ha : KOwn B w x K) : Calls Tryz.prog 19 #[x.val K.calls, .int .i64 k] w fun e w' => e = .returned (.int .i64 (k + cntK K)) ∧ KOwn B w' x (markK k K) ∧ Touch (blocks x.all) w w' := by
  have ND := Lib.hid ha.nd
  have AP := Lib.hid (nodup_apart (l := [x.r]) ha.nd)
  have LT := Lib.hid ha.m.lts
  have H1 := Lib.hid ha.m; have H2 := Lib.hid ha.ref
  clear ha
  unfold cntK at *
  simp only [KV.val]
  have hk1 : 0 ≤ k ∧ k + cntM K.m ≤ 9223372036854775807 := by omega
  have hk2 : 0 ≤ k + cntM K.m ∧ k + cntM K.m + K.refuse.length ≤ 9223372036854775807 := by omega
  have K1 := Lib.hid hk1; have K2 := Lib.hid hk2; clear hk hk1 hk2
  (have hall := all_nil w; go_enter Tryz.func19, Tryz.ntmps19)
  go_wp2_with fail
  refine (l_markMachine B x.m K.m _ K1.out _ (MOwn.below H1.out (by exact bel))).mono ?_; rintro e w2 ⟨rfl, ho, ht⟩
  have k1 : w2.cell? ⟨w.heap.size, 4, none⟩ = some x.r := (ht.cell (by exact zt) (fun hm => by have := (LT.out _ hm).2; omega)).trans (by go_simp)
  have T1 := Lib.hid ht; have O1 := Lib.hid ho; clear ht ho
  obtain ⟨wa, rfl⟩ : ∃ x, x = w2 := ⟨_, rfl⟩
  go_wp2_with fail
  refine (markInt' B _ _ _ K2.out _ (Own.touchs (Own.below H2.out (w' := w.alloc _) (by exact bel)) T1.out AP.out)).mono ?_; rintro e w2 ⟨rfl, ho, ht⟩
  have T2 := Lib.hid ht; have O2 := Lib.hid ho; clear ht ho
  go_wp2_with fail
  go_ret
  refine ⟨ret_int (a := k + cntM K.m + K.refuse.length) (by omega), ⟨MOwn.touch O1.out T2.out (apart_symm AP.out), O2.out, ND.out⟩, ?_⟩
  exact ((touch_of_below ((Below.refl _ _).alloc (Nat.le_refl _) _) _).trans (T1.out.mono (sub_right [x.r] _))).trans (T2.out.mono (sub_left [x.r] _))
theorem l_heldFrames (B : Nat) (x : FV) (F : Frm) (k : Int) (hk : 0 ≤ k ∧ k + cntF F ≤ 9223372036854775807) (w : World) (ha : FOwn B w x (markF k F)) : Calls Tryz.prog 107 #[x.val, .int .i64 k] w fun e w' => e = .returned (.int .i64 (k + cntF F)) ∧ Below w.heap.size w w' := by
  have H1 := Lib.hid ha.rows; have H2 := Lib.hid ha.used
  clear ha
  unfold cntF at *
  simp only [FV.val]
  have hk1 : 0 ≤ k ∧ k + tot F.cells ≤ 9223372036854775807 := by omega
  have hk2 : 0 ≤ k + tot F.cells ∧ k + tot F.cells + F.used.length ≤ 9223372036854775807 := by omega
  (have hall := all_nil w; go_enter Tryz.func107, Tryz.ntmps107)
  go_wp2_with (first | (go_at_call 150; refine (l_heldIntSS _ _ x.vs F.cells _ hk1 _ (OwnRows.below H1.out (by exact bel))).mono ?_; rintro e w2 ⟨rfl, hb⟩; ((have hn := nw1 hb hall (by exact zo))); obtain ⟨hc, hf, hn, hc0⟩ := hn; replace hall := hn; clear hn; have hz := hb.size; (try simp only [World.size_alloc, World.size_setCell, World.size_drew] at hz); have hx := hall; (try simp only [allLt, and_true] at hx); obtain ⟨w1, rfl⟩ : ∃ x, x = w2 := ⟨_, rfl⟩) | (go_at_call 151; refine (l_heldBoolS _ _ _ hk2 _ (Own.at (Own.below H2.out (by exact bel)) lenBool)).mono ?_; rintro e w2 ⟨rfl, hb⟩; ((have hn := nw0 hb hall (by exact zo))); obtain ⟨hc, hf, hn, hc0⟩ := hn; replace hall := hn; clear hn; have hz := hb.size; (try simp only [World.size_alloc, World.size_setCell, World.size_drew] at hz); have hx := hall; (try simp only [allLt, and_true] at hx); obtain ⟨w1, rfl⟩ : ∃ x, x = w2 := ⟨_, rfl⟩))
  go_ret
  exact ⟨ret_int (a := k + tot F.cells + F.used.length) (by omega), by exact bel⟩
theorem l_heldTable (B : Nat) (v : Value) (n : Nat) (k : Int) (hk : 0 ≤ k ∧ k + 2 * n ≤ 9223372036854775807) (w : World) (ha : OwnEnt B w v (marksG mkEnt 2 k n)) : Calls Tryz.prog 108 #[.agg #[v], .int .i64 k] w fun e w' => e = .returned (.int .i64 (k + 2 * n)) ∧ Below w.heap.size w w' := by
  have H1 := Lib.hid ha
  clear ha
  (have hall := all_nil w; go_enter Tryz.func108, Tryz.ntmps108)
  go_wp2_with ((go_at_call 152; refine (l_heldEntryS _ _ _ hk _ (Own.at (Own.below H1.out (by exact bel)) lenEnt)).mono ?_; rintro e w2 ⟨rfl, hb⟩; ((have hn := nw1 hb hall (by exact zo))); obtain ⟨hc, hf, hn, hc0⟩ := hn; replace hall := hn; clear hn; have hz := hb.size; (try simp only [World.size_alloc, World.size_setCell, World.size_drew] at hz); have hx := hall; (try simp only [allLt, and_true] at hx); obtain ⟨w1, rfl⟩ : ∃ x, x = w2 := ⟨_, rfl⟩))
  go_ret
  exact ⟨rfl, by exact bel⟩
theorem l_heldMachine (B : Nat) (x : MV) (M : Mac) (k : Int) (hk : 0 ≤ k ∧ k + cntM M ≤ 9223372036854775807) (w : World) (ha : MOwn B w x (markM k M)) : Calls Tryz.prog 61 #[x.val, .int .i64 k] w fun e w' => e = .returned (.int .i64 (k + cntM M)) ∧ Below w.heap.size w w' := by
  have H1 := Lib.hid ha.f; have H2 := Lib.hid ha.ents
  clear ha
  unfold cntM at *
  simp only [MV.val]
  have hk1 : 0 ≤ k ∧ k + cntF M.f ≤ 9223372036854775807 := by omega
  have hk2 : 0 ≤ k + cntF M.f ∧ k + cntF M.f + 2 * M.ents.length ≤ 9223372036854775807 := by omega
  (have hall := all_nil w; go_enter Tryz.func61, Tryz.ntmps61)
  go_wp2_with (first | (go_at_call 107; refine (l_heldFrames _ x.f M.f _ hk1 _ (FOwn.below H1.out (by exact bel))).mono ?_; rintro e w2 ⟨rfl, hb⟩; ((have hn := nw1 hb hall (by exact zo))); obtain ⟨hc, hf, hn, hc0⟩ := hn; replace hall := hn; clear hn; have hz := hb.size; (try simp only [World.size_alloc, World.size_setCell, World.size_drew] at hz); have hx := hall; (try simp only [allLt, and_true] at hx); obtain ⟨w1, rfl⟩ : ∃ x, x = w2 := ⟨_, rfl⟩) | (go_at_call 108; refine (l_heldTable _ _ _ _ hk2 _ (Own.below H2.out (by exact bel))).mono ?_; rintro e w2 ⟨rfl, hb⟩; ((have hn := nw0 hb hall (by exact zo))); obtain ⟨hc, hf, hn, hc0⟩ := hn; replace hall := hn; clear hn; have hz := hb.size; (try simp only [World.size_alloc, World.size_setCell, World.size_drew] at hz); have hx := hall; (try simp only [allLt, and_true] at hx); obtain ⟨w1, rfl⟩ : ∃ x, x = w2 := ⟨_, rfl⟩))
  go_ret
  exact ⟨ret_int (a := k + cntF M.f + 2 * M.ents.length) (by omega), by exact bel⟩
theorem l_heldKernel (B : Nat) (x : KV) (K : Ker) (k : Int) (hk : 0 ≤ k ∧ k + cntK K ≤ 9223372036854775807) (w : World) (ha : KOwn B w x (markK k K)) : Calls Tryz.prog 22 #[x.val K.calls, .int .i64 k] w fun e w' => e = .returned (.int .i64 (k + cntK K)) ∧ Below w.heap.size w w' := by
  have H1 := Lib.hid ha.m; have H2 := Lib.hid ha.ref
  clear ha
  unfold cntK at *
  simp only [KV.val]
  have hk1 : 0 ≤ k ∧ k + cntM K.m ≤ 9223372036854775807 := by omega
  have hk2 : 0 ≤ k + cntM K.m ∧ k + cntM K.m + K.refuse.length ≤ 9223372036854775807 := by omega
  (have hall := all_nil w; go_enter Tryz.func22, Tryz.ntmps22)
  go_wp2_with (first | (go_at_call 61; refine (l_heldMachine _ x.m K.m _ hk1 _ (MOwn.below H1.out (by exact bel))).mono ?_; rintro e w2 ⟨rfl, hb⟩; ((have hn := nw1 hb hall (by exact zo))); obtain ⟨hc, hf, hn, hc0⟩ := hn; replace hall := hn; clear hn; have hz := hb.size; (try simp only [World.size_alloc, World.size_setCell, World.size_drew] at hz); have hx := hall; (try simp only [allLt, and_true] at hx); obtain ⟨w1, rfl⟩ : ∃ x, x = w2 := ⟨_, rfl⟩) | (go_at_call 62; refine (l_heldIntS _ _ _ _ hk2 _ (Own.below H2.out (by exact bel))).mono ?_; rintro e w2 ⟨rfl, hb⟩; ((have hn := nw0 hb hall (by exact zo))); obtain ⟨hc, hf, hn, hc0⟩ := hn; replace hall := hn; clear hn; have hz := hb.size; (try simp only [World.size_alloc, World.size_setCell, World.size_drew] at hz); have hx := hall; (try simp only [allLt, and_true] at hx); obtain ⟨w1, rfl⟩ : ∃ x, x = w2 := ⟨_, rfl⟩))
  go_ret
  exact ⟨ret_int (a := k + cntM K.m + K.refuse.length) (by omega), by exact bel⟩
end Go.Proofs.YtmblkllijjlkoaaGreat
/-
  Plans and jobs: marked, held.
-/
set_option linter.unusedVariables false
set_option linter.unusedSimpArgs false
namespace Go.Proofs.YtmblkllijjlkoaaGreat
open Go.RowKit
theorem l_markPlan (B : Nat) (kp mv : Int) (v : Value) (es : List Int) (k : Int) (hk : 0 ≤ k ∧ k + es.length ≤ 9223372036854775807) (w : World) (ha : OwnI B w v es) : Calls Tryz.prog 78 #[.agg #[.int .i64 kp, .int .i64 mv, v], .int .i64 k] w fun e w' => e = .returned (.int .i64 (k + es.length)) ∧ OwnI B w' v (marksI k es.length) ∧ Touch (blocks [v]) w w' := by
  have H1 := Lib.hid ha; have K1 := Lib.hid hk
  clear ha hk
  (have hall := all_nil w; go_enter Tryz.func78, Tryz.ntmps78)
  go_wp2_with fail
  refine (markInt' B _ _ _ K1.out _ (Own.below H1.out (by exact bel))).mono ?_; rintro e w2 ⟨rfl, ho, ht⟩
  have T1 := Lib.hid ht; have O1 := Lib.hid ho; clear ht ho
  go_wp2_with fail
  go_ret
  exact ⟨rfl, O1.out, (touch_of_below ((Below.refl _ _).alloc (Nat.le_refl _) _) _).trans T1.out⟩
theorem l_markJob (B : Nat) (kp mv : Int) (v : Value) (es : List Int) (ph nx : Int) (k : Int) (hk : 0 ≤ k ∧ k + es.length ≤ 9223372036854775807) (w : World) (ha : OwnI B w v es) : Calls Tryz.prog 30 #[.agg #[.int .i64 kp, .int .i64 mv, v, .int .i64 ph, .int .i64 nx], .int .i64 k] w fun e w' => e = .returned (.int .i64 (k + es.length)) ∧ OwnI B w' v (marksI k es.length) ∧ Touch (blocks [v]) w w' := by
  have H1 := Lib.hid ha; have K1 := Lib.hid hk
  clear ha hk
  (have hall := all_nil w; go_enter Tryz.func30, Tryz.ntmps30)
  go_wp2_with fail
  refine (l_markPlan B kp mv _ _ _ K1.out _ (Own.below H1.out (by exact bel))).mono ?_; rintro e w2 ⟨rfl, ho, ht⟩
  have T1 := Lib.hid ht; have O1 := Lib.hid ho; clear ht ho
  go_wp2_with fail
  go_ret
  exact ⟨rfl, O1.out, (touch_of_below ((Below.refl _ _).alloc (Nat.le_refl _) _) _).trans T1.out⟩
theorem l_heldPlan (B : Nat) (kp mv : Int) (v : Value) (n : Nat) (k : Int) (hk : 0 ≤ k ∧ k + n ≤ 9223372036854775807) (w : World) (ha : OwnI B w v (marksI k n)) : Calls Tryz.prog 79 #[.agg #[.int .i64 kp, .int .i64 mv, v], .int .i64 k] w fun e w' => e = .returned (.int .i64 (k + n)) ∧ Below w.heap.size w w' := by
  have H1 := Lib.hid ha
  clear ha
  (have hall := all_nil w; go_enter Tryz.func79, Tryz.ntmps79)
  go_wp2_with (first | (go_at_call 62; refine (l_heldIntS _ _ _ _ hk _ (Own.below H1.out (by exact bel))).mono ?_; rintro e w2 ⟨rfl, hb⟩; (first | have hn := nw4 hb hall (by exact zo) | have hn := nw3 hb hall (by exact zo) | have hn := nw2 hb hall (by exact zo) | have hn := nw1 hb hall (by exact zo) | have hn := nw0 hb hall (by exact zo)); obtain ⟨hc, hf, hn, hc0⟩ := hn; replace hall := hn; clear hn; have hz := hb.size; (try simp only [World.size_alloc, World.size_setCell, World.size_drew] at hz); have hx := hall; (try simp only [allLt, and_true] at hx); obtain ⟨w1, rfl⟩ : ∃ x, x = w2 := ⟨_, rfl⟩) | (with_reducible refine wp_region_grew2 (by kernel_rfl) (by kernel_rfl) ?_; intro w2 hb; (first | have hn := nw4 hb hall (by exact zo) | have hn := nw3 hb hall (by exact zo) | have hn := nw2 hb hall (by exact zo) | have hn := nw1 hb hall (by exact zo) | have hn := nw0 hb hall (by exact zo)); obtain ⟨hc, hf, hn, hc0⟩ := hn; replace hall := hn; clear hn; have hz := hb.size; (try simp only [World.size_alloc, World.size_setCell, World.size_drew] at hz); have hx := hall; (try simp only [allLt, and_true] at hx); obtain ⟨w1, rfl⟩ : ∃ x, x = w2 := ⟨_, rfl⟩; (repeat (go_big_quiet_step (fail))); refine wpQuiet_nil ?_; intro w2 hw'; have hb := grew_below hw'; clear hw'; (first | have hn := nw4 hb hall (by exact zo) | have hn := nw3 hb hall (by exact zo) | have hn := nw2 hb hall (by exact zo) | have hn := nw1 hb hall (by exact zo) | have hn := nw0 hb hall (by exact zo)); obtain ⟨hc, hf, hn, hc0⟩ := hn; replace hall := hn; clear hn; have hz := hb.size; (try simp only [World.size_alloc, World.size_setCell, World.size_drew] at hz); have hx := hall; (try simp only [allLt, and_true] at hx); obtain ⟨w1, rfl⟩ : ∃ x, x = w2 := ⟨_, rfl⟩))
  go_ret
  exact ⟨rfl, by exact bel⟩
theorem l_heldJob (B : Nat) (kp mv : Int) (v : Value) (n : Nat) (ph nx : Int) (k : Int) (hk : 0 ≤ k ∧ k + n ≤ 9223372036854775807) (w : World) (ha : OwnI B w v (marksI k n)) : Calls Tryz.prog 31 #[.agg #[.int .i64 kp, .int .i64 mv, v, .int .i64 ph, .int .i64 nx], .int .i64 k] w fun e w' => e = .returned (.int .i64 (k + n)) ∧ Below w.heap.size w w' := by
  have H1 := Lib.hid ha
  clear ha
  (have hall := all_nil w; go_enter Tryz.func31, Tryz.ntmps31)
  go_wp2_with (first | (go_at_call 79; refine (l_heldPlan _ kp mv _ _ _ hk _ (Own.below H1.out (by exact bel))).mono ?_; rintro e w2 ⟨rfl, hb⟩; (first | have hn := nw4 hb hall (by exact zo) | have hn := nw3 hb hall (by exact zo) | have hn := nw2 hb hall (by exact zo) | have hn := nw1 hb hall (by exact zo) | have hn := nw0 hb hall (by exact zo)); obtain ⟨hc, hf, hn, hc0⟩ := hn; replace hall := hn; clear hn; have hz := hb.size; (try simp only [World.size_alloc, World.size_setCell, World.size_drew] at hz); have hx := hall; (try simp only [allLt, and_true] at hx); obtain ⟨w1, rfl⟩ : ∃ x, x = w2 := ⟨_, rfl⟩) | (with_reducible refine wp_region_grew2 (by kernel_rfl) (by kernel_rfl) ?_; intro w2 hb; (first | have hn := nw4 hb hall (by exact zo) | have hn := nw3 hb hall (by exact zo) | have hn := nw2 hb hall (by exact zo) | have hn := nw1 hb hall (by exact zo) | have hn := nw0 hb hall (by exact zo)); obtain ⟨hc, hf, hn, hc0⟩ := hn; replace hall := hn; clear hn; have hz := hb.size; (try simp only [World.size_alloc, World.size_setCell, World.size_drew] at hz); have hx := hall; (try simp only [allLt, and_true] at hx); obtain ⟨w1, rfl⟩ : ∃ x, x = w2 := ⟨_, rfl⟩; (repeat (go_big_quiet_step (fail))); refine wpQuiet_nil ?_; intro w2 hw'; have hb := grew_below hw'; clear hw'; (first | have hn := nw4 hb hall (by exact zo) | have hn := nw3 hb hall (by exact zo) | have hn := nw2 hb hall (by exact zo) | have hn := nw1 hb hall (by exact zo) | have hn := nw0 hb hall (by exact zo)); obtain ⟨hc, hf, hn, hc0⟩ := hn; replace hall := hn; clear hn; have hz := hb.size; (try simp only [World.size_alloc, World.size_setCell, World.size_drew] at hz); have hx := hall; (try simp only [allLt, and_true] at hx); obtain ⟨w1, rfl⟩ : ∃ x, x = w2 := ⟨_, rfl⟩))
  go_ret
  exact ⟨rfl, by exact bel⟩
end Go.Proofs.YtmblkllijjlkoaaGreat
