/-
  A new cache, both sides; caches equal, marked, held.
-/
import Derived.Test.YtkdafincnmkjnaaRowFn
import Derived.Test.YtkdafincnmkjnaaOwnL
set_option linter.unusedVariables false
set_option linter.unusedSimpArgs false
namespace Go.Proofs.Ytkdafincnmkjnaa
open Go.RowKit
theorem mk4 (w : World) : (Instr.makeSlice 71 (.int .i64 4) (.int .i64 4)).run Try.prog w = .ok (.slice (some ⟨w.heap.size, 0, none⟩) 4 4) (w.alloc (.cells #[.slice none 0 0, .slice none 0 0, .slice none 0 0, .slice none 0 0] 50)) := by kernel_rfl
attribute [go_sem] mk4
structure COwn (B : Nat) (w : World) (c : Value) (vs : List Value) (rows : List (List Int)) : Prop where
  o : OwnR B w c vs rows
  nd : (blocks (c :: vs)).Nodup
section
variable {B : Nat} {w w' : World} {c : Value} {vs : List Value} {rows : List (List Int)} {S : List Nat}
theorem COwn.below (h : COwn B w c vs rows) (hb : Below w.heap.size w w') : COwn B w' c vs rows := ⟨h.o.below hb, h.nd⟩
theorem COwn.touch (h : COwn B w c vs rows) (ht : Touch S w w') (hne : ∀ g ∈ blocks (c :: vs), g ∉ S) : COwn B w' c vs rows := ⟨h.o.touch ht hne, h.nd⟩
theorem COwn.lts (h : COwn B w c vs rows) : ∀ g ∈ blocks (c :: vs), B ≤ g ∧ g < w.heap.size := h.o.lt
theorem COwn.shape (h : COwn B w c vs rows) : ∃ ao cap, c = .slice ao vs.length cap := by
  obtain ⟨ao, cap, e, _⟩ := Own.shape h.o.out
  exact ⟨ao, cap, e⟩
end
def NewC (w : World) (rows : List (List Int)) (e : Ending) (w' : World) : Prop := ∃ c us, e = .returned (.agg #[c]) ∧ COwn w.heap.size w' c us rows ∧ Below w.heap.size w w'
theorem own4 {B : Nat} (w : World) (hB : B ≤ w.heap.size) : COwn B (w.alloc (.cells #[.slice none 0 0, .slice none 0 0, .slice none 0 0, .slice none 0 0] 50)) (.slice (some ⟨w.heap.size, 0, none⟩) 4 4) (List.replicate 4 (.slice none 0 0)) (List.replicate 4 []) := by
  have h : Own 50 1 fVal B (w.alloc (.cells #[.slice none 0 0, .slice none 0 0, .slice none 0 0, .slice none 0 0] 50)) (.slice (some ⟨w.heap.size, 0, none⟩) 4 4) (List.replicate 4 (.slice none 0 0)) := World.ownsRow_lit w #[.slice none 0 0, .slice none 0 0, .slice none 0 0, .slice none 0 0] 4 hB (by unfold maxLen; omega) rfl
  refine ⟨OwnRows.nilAll 4 h, ?_⟩
  show (blocks ([_] ++ List.replicate 4 (.slice none 0 0))).Nodup
  rw [blocks_append, blocks_nils, List.append_nil]
  exact nodup_one _
theorem i_CacheNew (w : World) : Calls Try.prog 58 #[] w (NewC w (List.replicate 4 [])) := by
  (have hall := all_nil w; go_enter Try.func58, Try.ntmps58)
  go_wp2
  refine bodyPost_ret (v := .agg #[.slice (some ⟨w.heap.size + 1, 0, none⟩) 4 4]) (by simp [results, Try.results58, go_sem]) rfl ?_
  have h := own4 (B := w.heap.size) (w.alloc (.cells #[.slice (some ⟨w.heap.size + 1, 0, none⟩) 4 4] 73)) (by simp)
  simp only [World.size_alloc] at h
  exact ⟨_, _, rfl, h, by exact bel⟩
theorem s_CacheNew (w : World) : Calls Try.prog 57 #[] w (NewC w (List.replicate 4 [])) := by
  (have hall := all_nil w; go_enter Try.func57, Try.ntmps57)
  go_wp2
  refine bodyPost_ret (v := .agg #[.slice (some ⟨w.heap.size + 1, 0, none⟩) 4 4]) (by simp [results, Try.results57, go_sem]) rfl ?_
  have h := own4 (B := w.heap.size) (w.alloc (.cells #[.slice (some ⟨w.heap.size + 1, 0, none⟩) 4 4] 73)) (by simp)
  simp only [World.size_alloc] at h
  exact ⟨_, _, rfl, h, by exact bel⟩
theorem l_eqCache (B B' : Nat) (c c' : Value) (vs us : List Value) (rows : List (List Int)) (w : World) (ha : COwn B w c vs rows) (hb : COwn B' w c' us rows) : Calls Try.prog 59 #[.agg #[c], .agg #[c']] w fun e w' => e = .returned (.bool true) ∧ Below w.heap.size w w' := by
  have H1 := Lib.hid ha; have H2 := Lib.hid hb; clear ha hb
  (have hall := all_nil w; go_enter Try.func59, Try.ntmps59)
  go_wp2_with fail
  refine (l_eqIntSS B B' c c' vs us rows _ (H1.out.o.below (by exact bel)) (H2.out.o.below (by exact bel))).mono ?_; rintro e w2 ⟨rfl, hb⟩
  have H3 := Lib.hid hb; clear hb
  go_wp2
  go_ret
  have h3 := H3.out
  exact ⟨rfl, by exact bel⟩
theorem l_markCache (B : Nat) (c : Value) (vs : List Value) (rows : List (List Int)) (k : Int) (hk : 0 ≤ k ∧ k + tot rows ≤ 9223372036854775807) (w : World) (ha : COwn B w c vs rows) : Calls Try.prog 60 #[.agg #[c], .int .i64 k] w fun e w' => e = .returned (.int .i64 (k + tot rows)) ∧ COwn B w' c vs (markRows k rows) ∧ Touch (blocks (c :: vs)) w w' := by
  have H1 := Lib.hid ha; have K1 := Lib.hid hk; clear ha hk
  (have hall := all_nil w; go_enter Try.func60, Try.ntmps60)
  go_wp2_with fail
  refine (l_markIntSS B c vs rows _ K1.out _ (H1.out.o.below (by exact bel)) H1.out.nd).mono ?_; rintro e w2 ⟨rfl, ho, ht⟩
  have T1 := Lib.hid (ht.mono (S' := blocks (c :: vs)) (blocks_sub fun v hv => List.mem_cons_of_mem _ hv)); have O1 := Lib.hid ho; clear ht ho
  go_wp2
  go_ret
  exact ⟨rfl, ⟨O1.out, H1.out.nd⟩, (touch_of_below ((Below.refl _ _).alloc (Nat.le_refl _) _) _).trans T1.out⟩
theorem l_heldCache (B : Nat) (c : Value) (vs : List Value) (rows : List (List Int)) (k : Int) (hk : 0 ≤ k ∧ k + tot rows ≤ 9223372036854775807) (w : World) (ha : COwn B w c vs (markRows k rows)) : Calls Try.prog 61 #[.agg #[c], .int .i64 k] w fun e w' => e = .returned (.int .i64 (k + tot rows)) ∧ Below w.heap.size w w' := by
  have H1 := Lib.hid ha; have K1 := Lib.hid hk; clear ha
  (have hall := all_nil w; go_enter Try.func61, Try.ntmps61)
  go_wp2_with fail
  refine (l_heldIntSS B c vs rows _ K1.out _ (H1.out.o.below (by exact bel))).mono ?_; rintro e w2 ⟨rfl, hb⟩
  have H3 := Lib.hid hb; clear hb
  go_wp2
  go_ret
  have h3 := H3.out
  exact ⟨rfl, by exact bel⟩
end Go.Proofs.Ytkdafincnmkjnaa
