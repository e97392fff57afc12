/-
  Texts put together: KRel, KUnmap, CopyRow.
-/
import Derived.Test.YtkkebpcclklmcaaGB17
import Derived.Deep.RegionHeld3
import Derived.Test.YtkkebpcclklmcaaGB3
/-
  A frame is given back if no page is mapped to it.
-/
set_option linter.unusedVariables false
set_option linter.unusedSimpArgs false
namespace Go.Proofs.Ytkkebpcclklmcaa
open Go.RowKit
/-- What a step without a result leaves behind the pointer. -/
def KLeft (B g : Nat) (w : World) (K : Ker) (e : Ending) (w' : World) : Prop := ∃ y : KV, e = .returned (.tuple #[]) ∧ KIn B w' g y K ∧ Below B w w'
theorem OwnI.zeros {B : Nat} (w : World) (hB : B ≤ w.heap.size) : OwnI B (w.alloc (.cells #[.int .i64 0, .int .i64 0, .int .i64 0, .int .i64 0, .int .i64 0, .int .i64 0, .int .i64 0, .int .i64 0, .int .i64 0, .int .i64 0, .int .i64 0, .int .i64 0, .int .i64 0, .int .i64 0, .int .i64 0, .int .i64 0] 3)) (.slice (some ⟨w.heap.size, 0, none⟩) 16 16) (List.replicate 16 0) :=
  World.ownsRow_lit w #[.int .i64 0, .int .i64 0, .int .i64 0, .int .i64 0, .int .i64 0, .int .i64 0, .int .i64 0, .int .i64 0, .int .i64 0, .int .i64 0, .int .i64 0, .int .i64 0, .int .i64 0, .int .i64 0, .int .i64 0, .int .i64 0] 16 hB (by unfold maxLen; omega) rfl
theorem mk16 (w : World) : (Instr.makeSlice 33 (.int .i64 16) (.int .i64 16)).run Try.prog w = .ok (.slice (some ⟨w.heap.size, 0, none⟩) 16 16) (w.alloc (.cells #[.int .i64 0, .int .i64 0, .int .i64 0, .int .i64 0, .int .i64 0, .int .i64 0, .int .i64 0, .int .i64 0, .int .i64 0, .int .i64 0, .int .i64 0, .int .i64 0, .int .i64 0, .int .i64 0, .int .i64 0, .int .i64 0] 3)) := by kernel_rfl
attribute [go_sem] mk16
/-- The two stores of a frame that is given back. -/
theorem KIn.drop {B g : Nat} {w : World} {y : KV} {K : Ker} {gu un uc gc cn cc fr : Nat} (h : KIn B w g y K) (hu : y.m.f.u = .slice (some ⟨gu, 0, none⟩) un uc) (hc : y.m.f.c = .slice (some ⟨gc, 0, none⟩) cn cc) (hl : fr < K.m.f.cells.length) (hB : B ≤ w.heap.size)
    {w1 : World} {v : Value} (hw1 : Below (w.setCell ⟨gu, fr, none⟩ (.bool false)).heap.size (w.setCell ⟨gu, fr, none⟩ (.bool false)) w1) (hv : OwnI B w1 v (List.replicate 16 0)) (hnew : ∀ b, v.ownBlock = some b → w.heap.size ≤ b) :
    KIn B (w1.setCell ⟨gc, fr, none⟩ v) g ⟨⟨⟨y.m.f.c, y.m.f.u, y.m.f.vs.set fr v⟩, y.m.e⟩, y.r⟩ (withF K (dropF K.m.f fr)) := by
  have h1 := h.own.m.f.setUsed hu fr false
  have s1 : (w.setCell ⟨gu, fr, none⟩ (.bool false)).heap.size = w.heap.size := by simp
  have h2 := FOwn.below h1.1 hw1
  have hfar : ∀ b, v.ownBlock = some b → b ∉ blocks y.all ∧ b ≠ g := fun b hb => by
    have h3 := hnew b hb
    exact ⟨fun hm => by have := (h.own.lts b hm).2; omega, fun e => by have := h.box.lt; omega⟩
  have h3 := FOwn.setRowVal h2 hc hl hv fun b hb hm => (hfar b hb).1 (mem_all hm)
  have t1 : Touch (blocks [y.m.f.u]) w w1 := h1.2.trans (touch_of_below hw1 _)
  have t2 : Touch (blocks [y.m.f.u] ++ blocks [y.m.f.c]) w (w1.setCell ⟨gc, fr, none⟩ v) := (t1.mono fun b hb => List.mem_append_left _ hb).trans (h3.2.mono fun b hb => List.mem_append_right _ hb)
  refine KIn.setF h t2 (fun b hb => ?_) h3.1 (fun b hb => ?_) rfl rfl
  · rcases List.mem_append.1 hb with hb | hb
    · exact mem_u _ b hb
    · exact mem_c _ b hb
  · rw [show (FV.mk y.m.f.c y.m.f.u (y.m.f.vs.set fr v)).all = [y.m.f.u] ++ ([y.m.f.c] ++ y.m.f.vs.set fr v) from rfl, blocks_append, blocks_append, List.mem_append, List.mem_append] at hb
    rcases hb with hb | hb | hb
    · exact .inl (mem_u _ b hb)
    · exact .inl (mem_c _ b hb)
    · rcases blocks_set b hb with h4 | h4
      · exact .inl (sub_right [y.m.f.u] _ b (blocks_sub (fun u hu => List.mem_cons_of_mem _ hu) b h4))
      · exact .inr (hfar b h4)
set_option maxRecDepth 20000 in
set_option maxHeartbeats 1600000 in
theorem i_releaseT (B g : Nat) (y : KV) (K : Ker) (fr : Nat) (hs : K.m.ents.length ≤ 1048576) (hu : fr < K.m.f.used.length) (hc : fr < K.m.f.cells.length) (w : World) (h : KIn B w g y K) : Calls Try.prog 89 #[.pointer (some ⟨g, 0, none⟩), .int .i64 fr] w (KLeftT B g y w (dropK K fr)) := by
  have KI := Lib.hid h
  have HS := Lib.hid hs
  obtain ⟨yco, ycc, yuo, yuc, yvs, yeo, yec, yro, yrc, rfl⟩ := h.own.shapes
  clear h hs
  have hBz : B ≤ w.heap.size := by have := KI.out.hB; have := KI.out.box.lt; omega
  cases hp : pagesOn K.m.ents fr with
  | cons p ps =>
    have HP := Lib.hid hp
    have HE : Hid (dropK K fr = K) := by unfold Hid dropK; rw [hp]; rfl
    rw [HE.out]
    clear hp
    (obtain ⟨xg, c0, c1, c2, c3, c4, f0, f1, f2, f3, f4⟩ := KI.out.box; dsimp only at c0 c1 c2 c3 c4)
    (have hall := all_nil w; go_enter Try.func89, Try.ntmps89)
    go_wp2_with ((go_at_call 76; (refine (i_PagesOn _ K.m.ents fr HS.out _ (SlAt.below (KI.out.own.m.ents.at lenEnt) (by exact bel))).mono ?_; rintro e w2 ⟨v2, rfl, hv2, hb⟩; (obtain ⟨vo, vc, rfl, -, -⟩ := hv2.shape); (try rw [HP.out]); have HB1 := Lib.hid hb; (have K2 := KI.out.below (w' := w2) (hb.mono (by exact zt))); clear xg c0 c1 c2 c3 c4 f0 f1 f2 f3 f4 hv2; (obtain ⟨xg, c0, c1, c2, c3, c4, f0, f1, f2, f3, f4⟩ := K2.box); dsimp only at c0 c1 c2 c3 c4; skip; have KJ := Lib.hid K2; clear K2; obtain ⟨wa, rfl⟩ : ∃ x, x = w2 := ⟨_, rfl⟩)))
    go_end0
    skip
    exact ⟨_, rfl, KJ.out, by (have hB1 := HB1.out; exact bel), touch_of_below HB1.out _, fun b hb => .inl hb⟩
  | nil =>
    have HP := Lib.hid hp
    have HE : Hid (dropK K fr = withF K (dropF K.m.f fr)) := by unfold Hid dropK; rw [if_pos hp, Int.toNat_natCast]
    rw [HE.out]
    clear hp
    have hvl : fr < yvs.length := by have := KI.out.own.m.f.rows.len; dsimp only at this; omega
    obtain ⟨gu, guc, hgu, -, -⟩ := Own.addr KI.out.own.m.f.used (Nat.lt_of_le_of_lt (Nat.zero_le _) hu)
    simp only [Value.slice.injEq] at hgu
    obtain ⟨rfl, -, rfl⟩ := hgu
    obtain ⟨gc, gcc, hgc, -, -⟩ := Own.addr KI.out.own.m.f.rows.out (Nat.lt_of_le_of_lt (Nat.zero_le _) hvl)
    simp only [Value.slice.injEq] at hgc
    obtain ⟨rfl, -, rfl⟩ := hgc
    obtain ⟨ux, hux⟩ := getx hu
    obtain ⟨vx, hvx⟩ := getx hvl
    have HUX := Lib.hid hux; have HVX := Lib.hid hvx
    have hlu : (fr : Int) < K.m.f.used.length := by omega
    have hlv : (fr : Int) < yvs.length := by omega
    clear hux hvx
    (obtain ⟨xg, c0, c1, c2, c3, c4, f0, f1, f2, f3, f4⟩ := KI.out.box; dsimp only at c0 c1 c2 c3 c4)
    (have hall := all_nil w; go_enter Try.func89, Try.ntmps89)
    go_wp2_with ((go_at_call 76; (refine (i_PagesOn _ K.m.ents fr HS.out _ (SlAt.below (KI.out.own.m.ents.at lenEnt) (by exact bel))).mono ?_; rintro e w2 ⟨v2, rfl, hv2, hb⟩; (obtain ⟨vo, vc, rfl, -, -⟩ := hv2.shape); (try rw [HP.out]); have HB1 := Lib.hid hb; (have K2 := KI.out.below (w' := w2) (hb.mono (by exact zt))); clear xg c0 c1 c2 c3 c4 f0 f1 f2 f3 f4 hv2; (obtain ⟨xg, c0, c1, c2, c3, c4, f0, f1, f2, f3, f4⟩ := K2.box); dsimp only at c0 c1 c2 c3 c4; (obtain ⟨hBu, xu, eu, zu⟩ := OwnB.slotB K2.own.m.f.used HUX.out); (obtain ⟨hBc, xc, zc, ec⟩ := Own.slot K2.own.m.f.rows.out lenVal HVX.out); have zcf := zc fr; (have ecf := ec 0 vx rfl); simp only [Nat.mul_one, Nat.add_zero] at ecf; clear zc ec; (obtain ⟨n1, n2⟩ := K2.neU rfl); (obtain ⟨n3, n4⟩ := K2.neC rfl); (obtain ⟨n5, n6⟩ := K2.own.m.f.neUC rfl rfl); have KJ := Lib.hid K2; clear K2; obtain ⟨wa, rfl⟩ : ∃ x, x = w2 := ⟨_, rfl⟩)))
    go_region_held3 (fun w' => w'.cell? ⟨g, 0, none⟩ = some (.slice (some ⟨gc, 0, none⟩) yvs.length ycc)) ((go_keep)) (fail)
    skip
    all_goals go_wp2
    go_end0
    skip
    have HD := KIn.drop (fr := fr) KJ.out rfl rfl hc (by omega) (w1 := (wa.setCell ⟨gu, fr, none⟩ (.bool false)).alloc _) ((Below.refl _ _).alloc (Nat.le_refl _) _) (OwnI.zeros _ (by simp; omega)) (fun b hb => by cases hb; simp)
    rw [World.setCell_alloc_past _ _ _ _ (by simpa using xc)] at HD
    have hB1 := HB1.out
    have hBc' : B ≤ gc := hBc
    have hBu' : B ≤ gu := hBu
    simp only [World.size_setCell] at HD
    have mu : gu ∈ g :: blocks (KV.all ⟨⟨⟨.slice (some ⟨gc, 0, none⟩) yvs.length ycc, .slice (some ⟨gu, 0, none⟩) K.m.f.used.length yuc, yvs⟩, .slice yeo K.m.ents.length yec⟩, .slice yro K.refuse.length yrc⟩) := List.mem_cons_of_mem _ (mem_all (sub_left [.slice (some ⟨gu, 0, none⟩) K.m.f.used.length yuc] _ gu (by simp [blocks, Value.ownBlock])))
    have mc : gc ∈ g :: blocks (KV.all ⟨⟨⟨.slice (some ⟨gc, 0, none⟩) yvs.length ycc, .slice (some ⟨gu, 0, none⟩) K.m.f.used.length yuc, yvs⟩, .slice yeo K.m.ents.length yec⟩, .slice yro K.refuse.length yrc⟩) := List.mem_cons_of_mem _ (mem_all (mem_blocks.2 ⟨.slice (some ⟨gc, 0, none⟩) yvs.length ycc, by simp [FV.all], rfl⟩))
    exact ⟨_, rfl, KIn.below HD (by exact bel), by exact bel, (touch_of_below hB1 _).trans (by repeat (first | (with_reducible refine touch_cellT ?_ (by first | exact mu | exact mc)) | (with_reducible refine touch_drw ?_) | (with_reducible refine touch_alc _ ?_) | (with_reducible exact Touch.refl _ _))), blocks_setV (y := ⟨⟨⟨.slice (some ⟨gc, 0, none⟩) yvs.length ycc, .slice (some ⟨gu, 0, none⟩) K.m.f.used.length yuc, yvs⟩, .slice yeo K.m.ents.length yec⟩, .slice yro K.refuse.length yrc⟩) (fun b hb => by cases hb; have := hB1.size; (try simp only [World.size_setCell, World.size_drew]); omega)⟩
theorem i_release (B g : Nat) (y : KV) (K : Ker) (fr : Nat) (hs : K.m.ents.length ≤ 1048576) (hu : fr < K.m.f.used.length) (hc : fr < K.m.f.cells.length) (w : World) (h : KIn B w g y K) : Calls Try.prog 89 #[.pointer (some ⟨g, 0, none⟩), .int .i64 fr] w (KLeft B g w (dropK K fr)) :=
  (i_releaseT B g y K fr hs hu hc w h).mono fun e w' ⟨y', h1, h2, h3, _⟩ => ⟨y', h1, h2, h3⟩


end Go.Proofs.Ytkkebpcclklmcaa
/-
  A page is unmapped: the program's function and the reference's.
-/
set_option linter.unusedVariables false
set_option linter.unusedSimpArgs false
namespace Go.Proofs.Ytkkebpcclklmcaa
open Go.RowKit
theorem can_ok {K : Ker} (h : canCall K = true) : framesOk K.m.f = true ∧ tableOk K.m.ents K.m.f.used.length = true := by
  have h0 : kernelOk K = true := by unfold canCall at h; simp only [Bool.and_eq_true] at h; exact h.2
  have h1 : machineOk K.m = true := by rw [kernelOk_eq] at h0; simp only [Bool.and_eq_true] at h0; first | exact h0.2 | exact h0.1.2 | exact h0.1.1.2
  unfold machineOk at h1
  simp only [Bool.and_eq_true] at h1
  exact h1.1
theorem can_len {K : Ker} (h : canCall K = true) : K.m.f.used.length = K.m.f.cells.length ∧ K.m.f.cells.length ≤ 32 ∧ K.m.ents.length ≤ 32 := by
  obtain ⟨h1, h2⟩ := can_ok h
  unfold framesOk at h1
  unfold tableOk at h2
  simp only [Bool.and_eq_true, between_iff, beq_iff_eq] at h1 h2
  omega
/-- Where a mapped page lies. -/
theorem mapped_frame {K : Ker} {p : Int} (h : canCall K = true) (hm : mappedB K.m.ents p = true) : ∃ (k : Nat) (em : Int) (fr : Nat), p = k ∧ K.m.ents[k]? = some ⟨em, fr⟩ ∧ pageEntry K.m.ents p = ⟨em, fr⟩ ∧ fr < K.m.f.used.length ∧ fr < K.m.f.cells.length ∧ K.m.ents.length ≤ 1048576 := by
  obtain ⟨k, en, rfl, hen, hpe⟩ := mapped_in hm
  have hl := can_len h
  have ht := (can_ok h).2
  unfold tableOk at ht
  simp only [Bool.and_eq_true] at ht
  have he := allTo_iff.1 ht.1 k (getx_lt hen)
  rw [getD_of hen] at he
  unfold mappedB at hm
  rw [hpe] at hm
  unfold entOk at he
  simp only [Bool.and_eq_true, Bool.not_eq_true', Bool.and_eq_false_iff, decide_eq_true_eq, decide_eq_false_iff_not, between_iff] at he
  have hn : (en.m != 0) = true := hm
  obtain ⟨m, f⟩ := en
  dsimp only at *
  have hf0 : 0 ≤ f := he.1.1.2
  have hf1 : f < K.m.f.used.length := by
    rcases he.2 with h5 | h5
    · rw [hn] at h5; cases h5
    · omega
  obtain ⟨fr, rfl⟩ := Int.eq_ofNat_of_zero_le hf0
  exact ⟨k, m, fr, rfl, hen, hpe, by omega, by omega, by omega⟩

end Go.Proofs.Ytkkebpcclklmcaa
/-
  A row into which cells of another are copied: plain lists.
-/
set_option linter.unusedVariables false
set_option linter.unusedSimpArgs false
namespace Go.Proofs.Ytkkebpcclklmcaa
def copyRow (ra rb cs : List Int) : List Int := cs.foldl (fun r c => r.set c.toNat (ra.getD c.toNat 0)) rb
theorem copyRow_snoc {ra rb cs : List Int} {j : Nat} {c : Int} (h : cs[j]? = some c) : copyRow ra rb (cs.take (j + 1)) = (copyRow ra rb (cs.take j)).set c.toNat (ra.getD c.toNat 0) := by
  unfold copyRow; rw [take_snoc h, List.foldl_append]; rfl
theorem copyRow_len (ra rb cs : List Int) : (copyRow ra rb cs).length = rb.length := by
  unfold copyRow
  induction cs generalizing rb with
  | nil => rfl
  | cons c cs ih => rw [List.foldl_cons, ih]; simp
theorem set_same (r : List Int) (i : Nat) : r.set i (r.getD i 0) = r := by
  by_cases h : i < r.length
  · rw [List.getD_eq_getElem?_getD, List.getElem?_eq_getElem h, Option.getD_some, List.set_getElem_self]
  · rw [List.set_eq_of_length_le (by omega)]
theorem copyRow_self (ra cs : List Int) : copyRow ra ra cs = ra := by
  unfold copyRow
  induction cs with
  | nil => rfl
  | cons c cs ih => rw [List.foldl_cons, set_same]; exact ih
end Go.Proofs.Ytkkebpcclklmcaa
