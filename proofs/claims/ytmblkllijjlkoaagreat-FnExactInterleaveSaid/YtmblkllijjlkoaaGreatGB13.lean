/-
  Texts put together: KLaw.
-/
import Derived.Test.YtmblkllijjlkoaaGreatGB10
/-
  The laws' functions on frames, tables, machines, kernels: size, copy, equal, marked, held.
-/
set_option linter.unusedVariables false
set_option linter.unusedSimpArgs false
namespace Go.Proofs.YtmblkllijjlkoaaGreat
open Go.RowKit
def szF (F : Frm) : Nat := F.cells.length + tot F.cells + F.used.length
def szM (M : Mac) : Nat := szF M.f + M.ents.length
def szK (K : Ker) : Nat := szM K.m + K.refuse.length
theorem szInt' (ao : Option Addr) (n cap : Nat) (hn : n ≤ maxLen) (left : Int) (hl : 0 ≤ left ∧ left ≤ 1048576) (w : World) : Calls Tryz.prog 47 #[.slice ao n cap, .int .i64 left] w fun e w' => e = .returned (.int .i64 (szRes left n)) ∧ Below w.heap.size w w' :=
  (l_szIntS ao n cap hn left hl w).mono fun _ _ ⟨he, hw⟩ => ⟨he, hw ▸ Below.refl _ _⟩
theorem szBool' (ao : Option Addr) (n cap : Nat) (hn : n ≤ maxLen) (left : Int) (hl : 0 ≤ left ∧ left ≤ 1048576) (w : World) : Calls Tryz.prog 125 #[.slice ao n cap, .int .i64 left] w fun e w' => e = .returned (.int .i64 (szRes left n)) ∧ Below w.heap.size w w' :=
  (l_szBoolS ao n cap hn left hl w).mono fun _ _ ⟨he, hw⟩ => ⟨he, hw ▸ Below.refl _ _⟩
theorem szEntry' (ao : Option Addr) (n cap : Nat) (hn : n ≤ maxLen) (left : Int) (hl : 0 ≤ left ∧ left ≤ 1048576) (w : World) : Calls Tryz.prog 126 #[.slice ao n cap, .int .i64 left] w fun e w' => e = .returned (.int .i64 (szRes left n)) ∧ Below w.heap.size w w' :=
  (l_szEntryS ao n cap hn left hl w).mono fun _ _ ⟨he, hw⟩ => ⟨he, hw ▸ Below.refl _ _⟩
theorem szRows' (c : Value) (vs : List Value) (rows : List (List Int)) (left : Int) (hl : 0 ≤ left ∧ left ≤ 1048576) (w : World) (ha : RowsAt fInt w c vs rows) : Calls Tryz.prog 124 #[c, .int .i64 left] w fun e w' => e = .returned (.int .i64 (szRes left (rows.length + tot rows))) ∧ Below w.heap.size w w' :=
  (l_szIntSS c vs rows left hl w ha).mono fun _ _ ⟨he, hw⟩ => ⟨he, hw ▸ Below.refl _ _⟩
theorem l_szFrames (x : FV) (F : Frm) (left : Int) (hl : 0 ≤ left ∧ left ≤ 1048576) (w : World) (ha : FAt w x F) : Calls Tryz.prog 87 #[x.val, .int .i64 left] w fun e w' => e = .returned (.int .i64 (szRes left (szF F))) ∧ Below w.heap.size w w' := by
  obtain ⟨c, u, vs⟩ := x
  obtain ⟨uo, uc, hu, h1, h2⟩ := ha.used.shape
  dsimp only at hu
  subst hu
  have hum : F.used.length ≤ maxLen := by omega
  have HR := Lib.hid ha.rows
  dsimp only at HR
  simp only [FV.val]
  unfold szF
  clear ha h1 h2
  by_cases c1 : left - ((F.cells.length + tot F.cells : Nat) : Int) < 0
  · (have hall := all_nil w; go_enter Tryz.func87, Tryz.ntmps87)
    go_wp2_with ((go_at_call 124; refine (szRows' _ _ F.cells _ (by omega) _ (HR.out.below (by exact bel))).mono ?_; rintro e w2 ⟨rfl, hb⟩; ((rw [szRes_neg (by omega)])); ((have hn := nw1 hb hall (by exact zo))); obtain ⟨hc, hf, hn, hc0⟩ := hn; replace hall := hn; clear hn; have hz := hb.size; (try simp only [World.size_alloc, World.size_setCell, World.size_drew] at hz); have hx := hall; (try simp only [allLt, and_true] at hx); obtain ⟨w1, rfl⟩ : ∃ x, x = w2 := ⟨_, rfl⟩))
    go_ret
    exact ⟨by rw [szRes_neg (by omega)]; rfl, by exact bel⟩
  by_cases c2 : left - ((F.cells.length + tot F.cells + F.used.length : Nat) : Int) < 0
  · (have hall := all_nil w; go_enter Tryz.func87, Tryz.ntmps87)
    go_wp2_with (first | (go_at_call 124; refine (szRows' _ _ F.cells _ (by omega) _ (HR.out.below (by exact bel))).mono ?_; rintro e w2 ⟨rfl, hb⟩; ((rw [szRes_pos (by omega)])); ((have hn := nw1 hb hall (by exact zo))); obtain ⟨hc, hf, hn, hc0⟩ := hn; replace hall := hn; clear hn; have hz := hb.size; (try simp only [World.size_alloc, World.size_setCell, World.size_drew] at hz); have hx := hall; (try simp only [allLt, and_true] at hx); obtain ⟨w1, rfl⟩ : ∃ x, x = w2 := ⟨_, rfl⟩) | (go_at_call 125; refine (szBool' _ _ _ hum _ (by omega) _).mono ?_; rintro e w2 ⟨rfl, hb⟩; ((rw [szRes_neg (by omega)])); ((have hn := nw0 hb hall (by exact zo))); obtain ⟨hc, hf, hn, hc0⟩ := hn; replace hall := hn; clear hn; have hz := hb.size; (try simp only [World.size_alloc, World.size_setCell, World.size_drew] at hz); have hx := hall; (try simp only [allLt, and_true] at hx); obtain ⟨w1, rfl⟩ : ∃ x, x = w2 := ⟨_, rfl⟩))
    go_ret
    exact ⟨by rw [szRes_neg (by omega)]; rfl, by exact bel⟩
  (have hall := all_nil w; go_enter Tryz.func87, Tryz.ntmps87)
  go_wp2_with (first | (go_at_call 124; refine (szRows' _ _ F.cells _ (by omega) _ (HR.out.below (by exact bel))).mono ?_; rintro e w2 ⟨rfl, hb⟩; ((rw [szRes_pos (by omega)])); ((have hn := nw1 hb hall (by exact zo))); obtain ⟨hc, hf, hn, hc0⟩ := hn; replace hall := hn; clear hn; have hz := hb.size; (try simp only [World.size_alloc, World.size_setCell, World.size_drew] at hz); have hx := hall; (try simp only [allLt, and_true] at hx); obtain ⟨w1, rfl⟩ : ∃ x, x = w2 := ⟨_, rfl⟩) | (go_at_call 125; refine (szBool' _ _ _ hum _ (by omega) _).mono ?_; rintro e w2 ⟨rfl, hb⟩; ((rw [szRes_pos (by omega)])); ((have hn := nw0 hb hall (by exact zo))); obtain ⟨hc, hf, hn, hc0⟩ := hn; replace hall := hn; clear hn; have hz := hb.size; (try simp only [World.size_alloc, World.size_setCell, World.size_drew] at hz); have hx := hall; (try simp only [allLt, and_true] at hx); obtain ⟨w1, rfl⟩ : ∃ x, x = w2 := ⟨_, rfl⟩))
  go_ret
  exact ⟨by rw [szRes_pos (by omega)]; go_num, by exact bel⟩

theorem l_szTable (e : Value) (es : List Ent) (left : Int) (hl : 0 ≤ left ∧ left ≤ 1048576) (w : World) (ha : EntAt w e es) : Calls Tryz.prog 88 #[.agg #[e], .int .i64 left] w fun e w' => e = .returned (.int .i64 (szRes left es.length)) ∧ Below w.heap.size w w' := by
  obtain ⟨eo, ec, rfl, h1, h2⟩ := ha.shape
  have hum : es.length ≤ maxLen := by omega
  clear ha h1 h2
  by_cases c1 : left - ((es.length : Nat) : Int) < 0
  · (have hall := all_nil w; go_enter Tryz.func88, Tryz.ntmps88)
    go_wp2_with ((go_at_call 126; refine (szEntry' _ _ _ hum _ (by omega) _).mono ?_; rintro e w2 ⟨rfl, hb⟩; ((rw [szRes_neg (by omega)])); ((have hn := nw1 hb hall (by exact zo))); obtain ⟨hc, hf, hn, hc0⟩ := hn; replace hall := hn; clear hn; have hz := hb.size; (try simp only [World.size_alloc, World.size_setCell, World.size_drew] at hz); have hx := hall; (try simp only [allLt, and_true] at hx); obtain ⟨w1, rfl⟩ : ∃ x, x = w2 := ⟨_, rfl⟩))
    go_ret
    exact ⟨by rw [szRes_neg (by omega)]; rfl, by exact bel⟩
  (have hall := all_nil w; go_enter Tryz.func88, Tryz.ntmps88)
  go_wp2_with ((go_at_call 126; refine (szEntry' _ _ _ hum _ (by omega) _).mono ?_; rintro e w2 ⟨rfl, hb⟩; ((rw [szRes_pos (by omega)])); ((have hn := nw1 hb hall (by exact zo))); obtain ⟨hc, hf, hn, hc0⟩ := hn; replace hall := hn; clear hn; have hz := hb.size; (try simp only [World.size_alloc, World.size_setCell, World.size_drew] at hz); have hx := hall; (try simp only [allLt, and_true] at hx); obtain ⟨w1, rfl⟩ : ∃ x, x = w2 := ⟨_, rfl⟩))
  go_ret
  exact ⟨by rw [szRes_pos (by omega)]; go_num, by exact bel⟩

theorem l_szMachine (x : MV) (M : Mac) (left : Int) (hl : 0 ≤ left ∧ left ≤ 1048576) (w : World) (ha : MAt w x M) : Calls Tryz.prog 46 #[x.val, .int .i64 left] w fun e w' => e = .returned (.int .i64 (szRes left (szM M))) ∧ Below w.heap.size w w' := by
  obtain ⟨f, e⟩ := x
  have HF := Lib.hid ha.f
  have HE := Lib.hid ha.ents
  dsimp only at HF HE
  simp only [MV.val]
  unfold szM
  clear ha
  by_cases c1 : left - ((szF M.f : Nat) : Int) < 0
  · (have hall := all_nil w; go_enter Tryz.func46, Tryz.ntmps46)
    go_wp2_with ((go_at_call 87; refine (l_szFrames f M.f _ (by omega) _ (HF.out.below (by exact bel))).mono ?_; rintro e w2 ⟨rfl, hb⟩; ((rw [szRes_neg (by omega)])); ((have hn := nw1 hb hall (by exact zo))); obtain ⟨hc, hf, hn, hc0⟩ := hn; replace hall := hn; clear hn; have hz := hb.size; (try simp only [World.size_alloc, World.size_setCell, World.size_drew] at hz); have hx := hall; (try simp only [allLt, and_true] at hx); obtain ⟨w1, rfl⟩ : ∃ x, x = w2 := ⟨_, rfl⟩))
    go_ret
    exact ⟨by rw [szRes_neg (by omega)]; rfl, by exact bel⟩
  by_cases c2 : left - ((szF M.f + M.ents.length : Nat) : Int) < 0
  · (have hall := all_nil w; go_enter Tryz.func46, Tryz.ntmps46)
    go_wp2_with (first | (go_at_call 87; refine (l_szFrames f M.f _ (by omega) _ (HF.out.below (by exact bel))).mono ?_; rintro e w2 ⟨rfl, hb⟩; ((rw [szRes_pos (by omega)])); ((have hn := nw1 hb hall (by exact zo))); obtain ⟨hc, hf, hn, hc0⟩ := hn; replace hall := hn; clear hn; have hz := hb.size; (try simp only [World.size_alloc, World.size_setCell, World.size_drew] at hz); have hx := hall; (try simp only [allLt, and_true] at hx); obtain ⟨w1, rfl⟩ : ∃ x, x = w2 := ⟨_, rfl⟩) | (go_at_call 88; refine (l_szTable _ M.ents _ (by omega) _ (HE.out.below (by exact bel))).mono ?_; rintro e w2 ⟨rfl, hb⟩; ((rw [szRes_neg (by omega)])); ((have hn := nw0 hb hall (by exact zo))); obtain ⟨hc, hf, hn, hc0⟩ := hn; replace hall := hn; clear hn; have hz := hb.size; (try simp only [World.size_alloc, World.size_setCell, World.size_drew] at hz); have hx := hall; (try simp only [allLt, and_true] at hx); obtain ⟨w1, rfl⟩ : ∃ x, x = w2 := ⟨_, rfl⟩))
    go_ret
    exact ⟨by rw [szRes_neg (by omega)]; rfl, by exact bel⟩
  (have hall := all_nil w; go_enter Tryz.func46, Tryz.ntmps46)
  go_wp2_with (first | (go_at_call 87; refine (l_szFrames f M.f _ (by omega) _ (HF.out.below (by exact bel))).mono ?_; rintro e w2 ⟨rfl, hb⟩; ((rw [szRes_pos (by omega)])); ((have hn := nw1 hb hall (by exact zo))); obtain ⟨hc, hf, hn, hc0⟩ := hn; replace hall := hn; clear hn; have hz := hb.size; (try simp only [World.size_alloc, World.size_setCell, World.size_drew] at hz); have hx := hall; (try simp only [allLt, and_true] at hx); obtain ⟨w1, rfl⟩ : ∃ x, x = w2 := ⟨_, rfl⟩) | (go_at_call 88; refine (l_szTable _ M.ents _ (by omega) _ (HE.out.below (by exact bel))).mono ?_; rintro e w2 ⟨rfl, hb⟩; ((rw [szRes_pos (by omega)])); ((have hn := nw0 hb hall (by exact zo))); obtain ⟨hc, hf, hn, hc0⟩ := hn; replace hall := hn; clear hn; have hz := hb.size; (try simp only [World.size_alloc, World.size_setCell, World.size_drew] at hz); have hx := hall; (try simp only [allLt, and_true] at hx); obtain ⟨w1, rfl⟩ : ∃ x, x = w2 := ⟨_, rfl⟩))
  go_ret
  exact ⟨by rw [szRes_pos (by omega)]; go_num, by exact bel⟩

theorem l_szKernel (x : KV) (K : Ker) (left : Int) (hl : 0 ≤ left ∧ left ≤ 1048576) (w : World) (ha : KAt w x K) : Calls Tryz.prog 8 #[x.val K.calls, .int .i64 left] w fun e w' => e = .returned (.int .i64 (szRes left (szK K))) ∧ Below w.heap.size w w' := by
  obtain ⟨m, r⟩ := x
  obtain ⟨ro, rc, hr, h1, h2⟩ := ha.ref.shape
  dsimp only at hr
  subst hr
  have hum : K.refuse.length ≤ maxLen := by omega
  have HM := Lib.hid ha.m
  dsimp only at HM
  simp only [KV.val]
  unfold szK
  clear ha h1 h2
  by_cases c1 : left - ((szM K.m : Nat) : Int) < 0
  · (have hall := all_nil w; go_enter Tryz.func8, Tryz.ntmps8)
    go_wp2_with ((go_at_call 46; refine (l_szMachine m K.m _ (by omega) _ (HM.out.below (by exact bel))).mono ?_; rintro e w2 ⟨rfl, hb⟩; ((rw [szRes_neg (by omega)])); ((have hn := nw1 hb hall (by exact zo))); obtain ⟨hc, hf, hn, hc0⟩ := hn; replace hall := hn; clear hn; have hz := hb.size; (try simp only [World.size_alloc, World.size_setCell, World.size_drew] at hz); have hx := hall; (try simp only [allLt, and_true] at hx); obtain ⟨w1, rfl⟩ : ∃ x, x = w2 := ⟨_, rfl⟩))
    go_ret
    exact ⟨by rw [szRes_neg (by omega)]; rfl, by exact bel⟩
  by_cases c2 : left - ((szM K.m + K.refuse.length : Nat) : Int) < 0
  · (have hall := all_nil w; go_enter Tryz.func8, Tryz.ntmps8)
    go_wp2_with (first | (go_at_call 46; refine (l_szMachine m K.m _ (by omega) _ (HM.out.below (by exact bel))).mono ?_; rintro e w2 ⟨rfl, hb⟩; ((rw [szRes_pos (by omega)])); ((have hn := nw1 hb hall (by exact zo))); obtain ⟨hc, hf, hn, hc0⟩ := hn; replace hall := hn; clear hn; have hz := hb.size; (try simp only [World.size_alloc, World.size_setCell, World.size_drew] at hz); have hx := hall; (try simp only [allLt, and_true] at hx); obtain ⟨w1, rfl⟩ : ∃ x, x = w2 := ⟨_, rfl⟩) | (go_at_call 47; refine (szInt' _ _ _ hum _ (by omega) _).mono ?_; rintro e w2 ⟨rfl, hb⟩; ((rw [szRes_neg (by omega)])); ((have hn := nw0 hb hall (by exact zo))); obtain ⟨hc, hf, hn, hc0⟩ := hn; replace hall := hn; clear hn; have hz := hb.size; (try simp only [World.size_alloc, World.size_setCell, World.size_drew] at hz); have hx := hall; (try simp only [allLt, and_true] at hx); obtain ⟨w1, rfl⟩ : ∃ x, x = w2 := ⟨_, rfl⟩))
    go_ret
    exact ⟨by rw [szRes_neg (by omega)]; rfl, by exact bel⟩
  (have hall := all_nil w; go_enter Tryz.func8, Tryz.ntmps8)
  go_wp2_with (first | (go_at_call 46; refine (l_szMachine m K.m _ (by omega) _ (HM.out.below (by exact bel))).mono ?_; rintro e w2 ⟨rfl, hb⟩; ((rw [szRes_pos (by omega)])); ((have hn := nw1 hb hall (by exact zo))); obtain ⟨hc, hf, hn, hc0⟩ := hn; replace hall := hn; clear hn; have hz := hb.size; (try simp only [World.size_alloc, World.size_setCell, World.size_drew] at hz); have hx := hall; (try simp only [allLt, and_true] at hx); obtain ⟨w1, rfl⟩ : ∃ x, x = w2 := ⟨_, rfl⟩) | (go_at_call 47; refine (szInt' _ _ _ hum _ (by omega) _).mono ?_; rintro e w2 ⟨rfl, hb⟩; ((rw [szRes_pos (by omega)])); ((have hn := nw0 hb hall (by exact zo))); obtain ⟨hc, hf, hn, hc0⟩ := hn; replace hall := hn; clear hn; have hz := hb.size; (try simp only [World.size_alloc, World.size_setCell, World.size_drew] at hz); have hx := hall; (try simp only [allLt, and_true] at hx); obtain ⟨w1, rfl⟩ : ∃ x, x = w2 := ⟨_, rfl⟩))
  go_ret
  exact ⟨by rw [szRes_pos (by omega)]; go_num, by exact bel⟩

/-- What a call that hands back frames, a table, a machine, a kernel of its own leaves. -/
def NewF (w : World) (F : Frm) (e : Ending) (w' : World) : Prop := ∃ y : FV, e = .returned y.val ∧ FOwn w.heap.size w' y F ∧ Below w.heap.size w w'
def NewT (w : World) (es : List Ent) (e : Ending) (w' : World) : Prop := ∃ v : Value, e = .returned (.agg #[v]) ∧ OwnEnt w.heap.size w' v es ∧ Below w.heap.size w w'
def NewM (w : World) (M : Mac) (e : Ending) (w' : World) : Prop := ∃ y : MV, e = .returned y.val ∧ MOwn w.heap.size w' y M ∧ Below w.heap.size w w'
def NewK (w : World) (K : Ker) (e : Ending) (w' : World) : Prop := ∃ y : KV, e = .returned (y.val K.calls) ∧ KOwn w.heap.size w' y K ∧ Below w.heap.size w w'
theorem l_toFrames (x : FV) (F : Frm) (hs : szF F ≤ 1048576) (w : World) (ha : FAt w x F) : Calls Tryz.prog 94 #[x.val] w (NewF w F) := by
  obtain ⟨c, u, vs⟩ := x
  have HR := Lib.hid ha.rows; have HU := Lib.hid ha.used
  dsimp only at HR HU
  simp only [FV.val]
  have hs1 : F.cells.length + tot F.cells ≤ 1048576 := by unfold szF at hs; omega
  have hs2 : F.used.length ≤ 1048576 := by unfold szF at hs; omega
  have H1 := Lib.hid hs1; have H2 := Lib.hid hs2
  clear ha hs hs1 hs2
  (have hall := all_nil w; go_enter Tryz.func94, Tryz.ntmps94)
  go_wp2_with (first | (go_at_call 133; (refine (l_toIntSS _ vs F.cells H1.out _ (HR.out.below (by exact bel))).mono ?_; rintro e w2 ⟨c', us, rfl, hro, hnd, hb⟩; obtain ⟨co, cc, rfl, -, -⟩ := hro.out.shape; have OR := Lib.hid hro; have ND := Lib.hid hnd; have HB1 := Lib.hid hb; have kwa_0_1 : w2.cell? ⟨w.heap.size, 1, none⟩ = some (u) := kc hb; obtain ⟨kwa_1_0, fwa_1_0, kwa_1_1, fwa_1_1⟩ := kf2 hb (w.heap.size + 1) (.slice none 0 0) (.slice none 0 0); obtain ⟨kwa_2_0, fwa_2_0, kwa_2_1, fwa_2_1⟩ := kf2 hb (w.heap.size + 1 + 1) (.slice none 0 0) (.slice none 0 0); have xwa_0 : w.heap.size < w2.heap.size := xc hb; have xwa_1 : w.heap.size + 1 < w2.heap.size := xc hb; have xwa_2 : w.heap.size + 1 + 1 < w2.heap.size := xc hb; have hzwa := hb.size; (try simp only [World.size_alloc, World.size_setCell, World.size_drew] at hzwa); clear hro hnd; obtain ⟨wa, rfl⟩ : ∃ x, x = w2 := ⟨_, rfl⟩)) | (go_at_call 134; (refine (l_toBoolS _ F.used H2.out _ (HU.out.below (by exact bel))).mono ?_; rintro e w2 ⟨u', rfl, huo, hb⟩; obtain ⟨uo, uc, rfl, -, -⟩ := huo.shape; have OU := Lib.hid huo; have HB2 := Lib.hid hb; obtain ⟨kwb_1_0, fwb_1_0, kwb_1_1, fwb_1_1⟩ := kf2 hb (w.heap.size + 1) (.slice none 0 0) (.slice none 0 0); obtain ⟨kwb_2_0, fwb_2_0, kwb_2_1, fwb_2_1⟩ := kf2 hb (w.heap.size + 1 + 1) (.slice co us.length cc) (.slice none 0 0); have xwb_1 : w.heap.size + 1 < w2.heap.size := xc hb; have xwb_2 : w.heap.size + 1 + 1 < w2.heap.size := xc hb; have hzwb := hb.size; (try simp only [World.size_alloc, World.size_setCell, World.size_drew] at hzwb); clear huo; obtain ⟨wb, rfl⟩ : ∃ x, x = w2 := ⟨_, rfl⟩)))
  refine bodyPost_ret (v := .agg #[.slice co us.length cc, .slice uo F.used.length uc]) (by simp [results, Tryz.results94, go_sem, kwb_1_0, fwb_1_0, kwb_1_1, fwb_1_1, xwb_1, kwb_2_0, fwb_2_0, kwb_2_1, fwb_2_1, xwb_2]) rfl ?_
  have hB1 := HB1.out; have hB2 := HB2.out
  refine ⟨⟨_, _, us⟩, rfl, ⟨by (have hm := OwnRows.mono (B' := w.heap.size + 1 + 1 + 1) (OR.out) (by exact zt); refine OwnRows.mono (B := w.heap.size + 1 + 1 + 1) ?_ (by exact zt); (repeat (first | with_reducible exact hm | (with_reducible refine OwnRows.offb ?_ (by omega) _) | (refine OwnRows.below ?_ (by with_reducible assumption))))), by (have hm := Own.mono (B' := w.heap.size + 1 + 1 + 1) (OU.out) (by exact zt); refine Own.mono (B := w.heap.size + 1 + 1 + 1) ?_ (by exact zt); (repeat (first | with_reducible exact hm | (with_reducible refine Own.offb ?_ (by omega) _)))), ?_⟩, by exact bel⟩
  exact nodup_blocks (l := [_]) (nodup_one _) ND.out (fun g hg hm => by have h1 := (Own.lts OU.out) g hg; have h2 := (OR.out.lt) g hm; simp only [World.size_alloc, World.size_setCell, World.size_drew] at h1 h2; omega)
theorem l_toTable (e : Value) (es : List Ent) (hs : es.length ≤ 1048576) (w : World) (ha : EntAt w e es) : Calls Tryz.prog 95 #[.agg #[e]] w (NewT w es) := by
  have HE := Lib.hid ha; have H1 := Lib.hid hs
  clear ha hs
  (have hall := all_nil w; go_enter Tryz.func95, Tryz.ntmps95)
  go_wp2_with ((go_at_call 135; (refine (l_toEntryS _ es H1.out _ (HE.out.below (by exact bel))).mono ?_; rintro e w2 ⟨e', rfl, heo, hb⟩; obtain ⟨eo, ec, rfl, -, -⟩ := heo.shape; have OE := Lib.hid heo; have HB1 := Lib.hid hb; have kwa_1_0 : w2.cell? ⟨w.heap.size + 1, 0, none⟩ = some (.slice none 0 0) := kc hb; have fwa_1_0 : w2.frozen? ⟨w.heap.size + 1, 0, none⟩ = false := fc hb; have kwa_2_0 : w2.cell? ⟨w.heap.size + 1 + 1, 0, none⟩ = some (.slice none 0 0) := kc hb; have fwa_2_0 : w2.frozen? ⟨w.heap.size + 1 + 1, 0, none⟩ = false := fc hb; have xwa_1 : w.heap.size + 1 < w2.heap.size := xc hb; have xwa_2 : w.heap.size + 1 + 1 < w2.heap.size := xc hb; have hzwa := hb.size; (try simp only [World.size_alloc, World.size_setCell, World.size_drew] at hzwa); clear heo; obtain ⟨wa, rfl⟩ : ∃ x, x = w2 := ⟨_, rfl⟩)))
  refine bodyPost_ret (v := .agg #[.slice eo es.length ec]) (by simp [results, Tryz.results95, go_sem, kwa_1_0, fwa_1_0, xwa_1, kwa_2_0, fwa_2_0, xwa_2]) rfl ?_
  have hB1 := HB1.out
  exact ⟨_, rfl, by (have hm := Own.mono (B' := w.heap.size + 1 + 1 + 1) (OE.out) (by exact zt); refine Own.mono (B := w.heap.size + 1 + 1 + 1) ?_ (by exact zt); (repeat (first | with_reducible exact hm | (with_reducible refine Own.offb ?_ (by omega) _)))), by exact bel⟩
set_option maxHeartbeats 400000 in
theorem l_toMachine (x : MV) (M : Mac) (hs : szM M ≤ 1048576) (w : World) (ha : MAt w x M) : Calls Tryz.prog 51 #[x.val] w (NewM w M) := by
  obtain ⟨f, e⟩ := x
  have HF := Lib.hid ha.f; have HE := Lib.hid ha.ents
  dsimp only at HF HE
  simp only [MV.val]
  have hs1 : szF M.f ≤ 1048576 := by unfold szM at hs; omega
  have hs2 : M.ents.length ≤ 1048576 := by unfold szM at hs; omega
  have H1 := Lib.hid hs1; have H2 := Lib.hid hs2
  clear ha hs hs1 hs2
  (have hall := all_nil w; go_enter Tryz.func51, Tryz.ntmps51)
  go_wp2_with (first | (go_at_call 94; (refine (l_toFrames f M.f H1.out _ (HF.out.below (by exact bel))).mono ?_; rintro e w2 ⟨y, rfl, hyo, hb⟩; (obtain ⟨yco, ycc, yuo, yuc, yvs, rfl⟩ := FOwn.shapes hyo); have OF := Lib.hid hyo; have HB1 := Lib.hid hb; have kwa_0_2 : w2.cell? ⟨w.heap.size, 2, none⟩ = some (e) := kc hb; obtain ⟨kwa_1_0, fwa_1_0, kwa_1_1, fwa_1_1, kwa_1_2, fwa_1_2⟩ := kf3 hb (w.heap.size + 1) (.slice none 0 0) (.slice none 0 0) (.slice none 0 0); obtain ⟨kwa_2_0, fwa_2_0, kwa_2_1, fwa_2_1, kwa_2_2, fwa_2_2⟩ := kf3 hb (w.heap.size + 1 + 1) (.slice none 0 0) (.slice none 0 0) (.slice none 0 0); have xwa_0 : w.heap.size < w2.heap.size := xc hb; have xwa_1 : w.heap.size + 1 < w2.heap.size := xc hb; have xwa_2 : w.heap.size + 1 + 1 < w2.heap.size := xc hb; have hzwa := hb.size; (try simp only [World.size_alloc, World.size_setCell, World.size_drew] at hzwa); clear hyo; simp only [FV.val]; obtain ⟨wa, rfl⟩ : ∃ x, x = w2 := ⟨_, rfl⟩)) | (go_at_call 95; (refine (l_toTable _ M.ents H2.out _ (HE.out.below (by exact bel))).mono ?_; rintro e w2 ⟨e', rfl, heo, hb⟩; obtain ⟨eo, ec, rfl, -, -⟩ := heo.shape; have OE := Lib.hid heo; have HB2 := Lib.hid hb; obtain ⟨kwb_1_0, fwb_1_0, kwb_1_1, fwb_1_1, kwb_1_2, fwb_1_2⟩ := kf3 hb (w.heap.size + 1) (.slice none 0 0) (.slice none 0 0) (.slice none 0 0); obtain ⟨kwb_2_0, fwb_2_0, kwb_2_1, fwb_2_1, kwb_2_2, fwb_2_2⟩ := kf3 hb (w.heap.size + 1 + 1) (.slice yco yvs.length ycc) (.slice yuo M.f.used.length yuc) (.slice none 0 0); have xwb_1 : w.heap.size + 1 < w2.heap.size := xc hb; have xwb_2 : w.heap.size + 1 + 1 < w2.heap.size := xc hb; have hzwb := hb.size; (try simp only [World.size_alloc, World.size_setCell, World.size_drew] at hzwb); clear heo; obtain ⟨wb, rfl⟩ : ∃ x, x = w2 := ⟨_, rfl⟩)))
  refine bodyPost_ret (v := .agg #[.slice yco yvs.length ycc, .slice yuo M.f.used.length yuc, .slice eo M.ents.length ec]) (by simp [results, Tryz.results51, go_sem, kwb_1_0, fwb_1_0, kwb_1_1, fwb_1_1, kwb_1_2, fwb_1_2, xwb_1, kwb_2_0, fwb_2_0, kwb_2_1, fwb_2_1, kwb_2_2, fwb_2_2, xwb_2]) rfl ?_
  have hB1 := HB1.out; have hB2 := HB2.out
  refine ⟨⟨⟨_, _, yvs⟩, _⟩, rfl, ⟨by (have hm := FOwn.mono (B' := w.heap.size + 1 + 1 + 1) (OF.out) (by exact zt); refine FOwn.mono (B := w.heap.size + 1 + 1 + 1) ?_ (by exact zt); (repeat (first | with_reducible exact hm | (with_reducible refine FOwn.offb ?_ (by omega) _) | (refine FOwn.below ?_ (by with_reducible assumption))))), by (have hm := Own.mono (B' := w.heap.size + 1 + 1 + 1) (OE.out) (by exact zt); refine Own.mono (B := w.heap.size + 1 + 1 + 1) ?_ (by exact zt); (repeat (first | with_reducible exact hm | (with_reducible refine Own.offb ?_ (by omega) _)))), ?_⟩, by exact bel⟩
  exact nodup_blocks (l := [_]) (nodup_one _) OF.out.nd (fun g hg hm => by have h1 := (Own.lts OE.out) g hg; have h2 := (OF.out.lts) g hm; simp only [World.size_alloc, World.size_setCell, World.size_drew] at h1 h2; omega)
set_option maxHeartbeats 800000 in
theorem l_toKernel (x : KV) (K : Ker) (hs : szK K ≤ 1048576) (w : World) (ha : KAt w x K) : Calls Tryz.prog 12 #[x.val K.calls] w (NewK w K) := by
  obtain ⟨m, r⟩ := x
  have HM := Lib.hid ha.m; have HR := Lib.hid ha.ref
  dsimp only at HM HR
  simp only [KV.val]
  have hs1 : szM K.m ≤ 1048576 := by unfold szK at hs; omega
  have hs2 : K.refuse.length ≤ 1048576 := by unfold szK at hs; omega
  have H1 := Lib.hid hs1; have H2 := Lib.hid hs2
  clear ha hs hs1 hs2
  (have hall := all_nil w; go_enter Tryz.func12, Tryz.ntmps12)
  go_wp2_with (first | (go_at_call 51; (refine (l_toMachine m K.m H1.out _ (HM.out.below (by exact bel))).mono ?_; rintro e w2 ⟨y, rfl, hyo, hb⟩; (obtain ⟨yco, ycc, yuo, yuc, yvs, yeo, yec, rfl⟩ := MOwn.shapes hyo); have OM := Lib.hid hyo; have HB1 := Lib.hid hb; have kwa_0_3 : w2.cell? ⟨w.heap.size, 3, none⟩ = some (.int .i64 K.calls) := kc hb; have kwa_0_4 : w2.cell? ⟨w.heap.size, 4, none⟩ = some (r) := kc hb; obtain ⟨kwa_1_0, fwa_1_0, kwa_1_1, fwa_1_1, kwa_1_2, fwa_1_2, kwa_1_3, fwa_1_3, kwa_1_4, fwa_1_4⟩ := kf5 hb (w.heap.size + 1) (.slice none 0 0) (.slice none 0 0) (.slice none 0 0) (.int .i64 0) (.slice none 0 0); obtain ⟨kwa_2_0, fwa_2_0, kwa_2_1, fwa_2_1, kwa_2_2, fwa_2_2, kwa_2_3, fwa_2_3, kwa_2_4, fwa_2_4⟩ := kf5 hb (w.heap.size + 1 + 1) (.slice none 0 0) (.slice none 0 0) (.slice none 0 0) (.int .i64 0) (.slice none 0 0); have xwa_0 : w.heap.size < w2.heap.size := xc hb; have xwa_1 : w.heap.size + 1 < w2.heap.size := xc hb; have xwa_2 : w.heap.size + 1 + 1 < w2.heap.size := xc hb; have hzwa := hb.size; (try simp only [World.size_alloc, World.size_setCell, World.size_drew] at hzwa); clear hyo; simp only [MV.val]; obtain ⟨wa, rfl⟩ : ∃ x, x = w2 := ⟨_, rfl⟩)) | (go_at_call 37; (refine (l_toIntS _ K.refuse H2.out _ (HR.out.below (by exact bel))).mono ?_; rintro e w2 ⟨r', rfl, hro, hb⟩; obtain ⟨ro, rc, rfl, -, -⟩ := hro.shape; have OI := Lib.hid hro; have HB2 := Lib.hid hb; obtain ⟨kwb_1_0, fwb_1_0, kwb_1_1, fwb_1_1, kwb_1_2, fwb_1_2, kwb_1_3, fwb_1_3, kwb_1_4, fwb_1_4⟩ := kf5 hb (w.heap.size + 1) (.slice none 0 0) (.slice none 0 0) (.slice none 0 0) (.int .i64 0) (.slice none 0 0); obtain ⟨kwb_2_0, fwb_2_0, kwb_2_1, fwb_2_1, kwb_2_2, fwb_2_2, kwb_2_3, fwb_2_3, kwb_2_4, fwb_2_4⟩ := kf5 hb (w.heap.size + 1 + 1) (.slice yco yvs.length ycc) (.slice yuo K.m.f.used.length yuc) (.slice yeo K.m.ents.length yec) (.int .i64 K.calls) (.slice none 0 0); have xwb_1 : w.heap.size + 1 < w2.heap.size := xc hb; have xwb_2 : w.heap.size + 1 + 1 < w2.heap.size := xc hb; have hzwb := hb.size; (try simp only [World.size_alloc, World.size_setCell, World.size_drew] at hzwb); clear hro; obtain ⟨wb, rfl⟩ : ∃ x, x = w2 := ⟨_, rfl⟩)))
  refine bodyPost_ret (v := .agg #[.slice yco yvs.length ycc, .slice yuo K.m.f.used.length yuc, .slice yeo K.m.ents.length yec, .int .i64 K.calls, .slice ro K.refuse.length rc]) (by simp [results, Tryz.results12, go_sem, kwb_1_0, fwb_1_0, kwb_1_1, fwb_1_1, kwb_1_2, fwb_1_2, kwb_1_3, fwb_1_3, kwb_1_4, fwb_1_4, xwb_1, kwb_2_0, fwb_2_0, kwb_2_1, fwb_2_1, kwb_2_2, fwb_2_2, kwb_2_3, fwb_2_3, kwb_2_4, fwb_2_4, xwb_2]) rfl ?_
  have hB1 := HB1.out; have hB2 := HB2.out
  refine ⟨⟨⟨⟨_, _, yvs⟩, _⟩, _⟩, rfl, ⟨by (have hm := MOwn.mono (B' := w.heap.size + 1 + 1 + 1) (OM.out) (by exact zt); refine MOwn.mono (B := w.heap.size + 1 + 1 + 1) ?_ (by exact zt); (repeat (first | with_reducible exact hm | (with_reducible refine MOwn.offb ?_ (by omega) _) | (refine MOwn.below ?_ (by with_reducible assumption))))), by (have hm := Own.mono (B' := w.heap.size + 1 + 1 + 1) (OI.out) (by exact zt); refine Own.mono (B := w.heap.size + 1 + 1 + 1) ?_ (by exact zt); (repeat (first | with_reducible exact hm | (with_reducible refine Own.offb ?_ (by omega) _)))), ?_⟩, by exact bel⟩
  exact nodup_blocks (l := [_]) (nodup_one _) OM.out.nd (fun g hg hm => by have h1 := (Own.lts OI.out) g hg; have h2 := (OM.out.lts) g hm; simp only [World.size_alloc, World.size_setCell, World.size_drew] at h1 h2; omega)
end Go.Proofs.YtmblkllijjlkoaaGreat
