/-
  Copies of frames, tables, machines, kernels.
-/
import Derived.Test.YtmblkllijjlkoaaGreatKLaw
import Derived.Test.YtmblkllijjlkoaaGreatAppend
import Derived.Test.YtmblkllijjlkoaaGreatKRead
set_option linter.unusedVariables false
set_option linter.unusedSimpArgs false
namespace Go.Proofs.YtmblkllijjlkoaaGreat
open Go.RowKit
theorem i_copyInts (v : Value) (xs : List Int) (hs : xs.length ≤ 1048576) (w : World) (ha : IntsAt w v xs) : Calls Tryz.prog 97 #[v] w (NewInts w xs) := by
  have HA := Lib.hid ha
  obtain ⟨ao, ca, rfl, _, _⟩ := ha.shape
  clear ha
  (have hall := all_nil w; go_enter Tryz.func97, Tryz.ntmps97)
  go_wp2_with (first | (at_builtin; refine wpList_appendAll elemInt rfl _ _ rfl lenInt oneInt rfl (Own.empty' _ _ _ (w.heap.size) _ _ (by simp) (by exact zt)) (by exact zt) rfl (HA.out.below (by exact bel)) (by simp only [List.length_nil, maxLen]; omega) ?_; intro v2 w2 hown2 hgr2 hat2 hb; (try simp only [List.nil_append] at hown2); obtain ⟨v2o, v2c, rfl, -, -⟩ := hown2.shape; skip))
  go_ret
  exact ⟨_, rfl, hown2, by exact bel⟩
theorem i_copyTable (v : Value) (es : List Ent) (hs : es.length ≤ 1048576) (w : World) (ha : EntAt w v es) : Calls Tryz.prog 137 #[.agg #[v]] w (NewT w es) := by
  have HA := Lib.hid ha
  obtain ⟨ao, ca, rfl, _, _⟩ := ha.shape
  clear ha
  (have hall := all_nil w; go_enter Tryz.func137, Tryz.ntmps137)
  go_wp2_with (first | (at_builtin; refine wpList_appendAll elemEnt rfl _ _ rfl lenEnt oneEnt rfl (Own.empty' _ _ _ (w.heap.size + 1 + 1) _ _ (by simp) (by exact zt)) (by exact zt) rfl (HA.out.below (by exact bel)) (by simp only [List.length_nil, maxLen]; omega) ?_; intro v2 w2 hown2 hgr2 hat2 hb; (try simp only [List.nil_append] at hown2); obtain ⟨v2o, v2c, rfl, -, -⟩ := hown2.shape; have OE := Lib.hid hown2; clear hown2 hgr2 hat2; have kwa_1_0 : w2.cell? ⟨w.heap.size + 1, 0, none⟩ = some (.slice none 0 0) := kc hb; have fwa_1_0 : w2.frozen? ⟨w.heap.size + 1, 0, none⟩ = false := fc hb; have xwa_1 : w.heap.size + 1 < w2.heap.size := xc hb; have hzwa := hb.size; (try simp only [World.size_alloc, World.size_setCell, World.size_drew] at hzwa); obtain ⟨wa, rfl⟩ : ∃ x, x = w2 := ⟨_, rfl⟩))
  refine bodyPost_ret (v := .agg #[.slice v2o es.length v2c]) (by simp [results, Tryz.results137, go_sem, kwa_1_0, fwa_1_0, xwa_1]) rfl ?_
  exact ⟨_, rfl, by (have hm := Own.mono (B' := w.heap.size + 1 + 1) (OE.out) (by exact zt); refine Own.mono (B := w.heap.size + 1 + 1) ?_ (by exact zt); (repeat (first | with_reducible exact hm | (with_reducible refine Own.offb ?_ (by omega) _) | (with_reducible refine Own.below ?_ ((Below.refl _ _).alloc (Nat.le_refl _) _)) | (with_reducible refine Own.below ?_ (Below.drew (Below.refl _ _))) | (refine Own.below ?_ (by with_reducible assumption))))), by exact bel⟩

theorem s_l06Copy (v : Value) (es : List Ent) (hs : es.length ≤ 1048576) (w : World) (ha : EntAt w v es) : Calls Tryz.prog 128 #[.agg #[v]] w (NewT w es) := by
  have HA := Lib.hid ha
  obtain ⟨ao, ca, rfl, _, _⟩ := ha.shape
  clear ha
  (have hall := all_nil w; go_enter Tryz.func128, Tryz.ntmps128)
  go_wp2_with (first | (at_builtin; refine wpList_appendAll elemEnt rfl _ _ rfl lenEnt oneEnt rfl (Own.empty' _ _ _ (w.heap.size + 1 + 1) _ _ (by simp) (by exact zt)) (by exact zt) rfl (HA.out.below (by exact bel)) (by simp only [List.length_nil, maxLen]; omega) ?_; intro v2 w2 hown2 hgr2 hat2 hb; (try simp only [List.nil_append] at hown2); obtain ⟨v2o, v2c, rfl, -, -⟩ := hown2.shape; have OE := Lib.hid hown2; clear hown2 hgr2 hat2; have kwa_1_0 : w2.cell? ⟨w.heap.size + 1, 0, none⟩ = some (.slice none 0 0) := kc hb; have fwa_1_0 : w2.frozen? ⟨w.heap.size + 1, 0, none⟩ = false := fc hb; have xwa_1 : w.heap.size + 1 < w2.heap.size := xc hb; have hzwa := hb.size; (try simp only [World.size_alloc, World.size_setCell, World.size_drew] at hzwa); obtain ⟨wa, rfl⟩ : ∃ x, x = w2 := ⟨_, rfl⟩))
  refine bodyPost_ret (v := .agg #[.slice v2o es.length v2c]) (by simp [results, Tryz.results128, go_sem, kwa_1_0, fwa_1_0, xwa_1]) rfl ?_
  exact ⟨_, rfl, by (have hm := Own.mono (B' := w.heap.size + 1 + 1) (OE.out) (by exact zt); refine Own.mono (B := w.heap.size + 1 + 1) ?_ (by exact zt); (repeat (first | with_reducible exact hm | (with_reducible refine Own.offb ?_ (by omega) _) | (with_reducible refine Own.below ?_ ((Below.refl _ _).alloc (Nat.le_refl _) _)) | (with_reducible refine Own.below ?_ (Below.drew (Below.refl _ _))) | (refine Own.below ?_ (by with_reducible assumption))))), by exact bel⟩

end Go.Proofs.YtmblkllijjlkoaaGreat
