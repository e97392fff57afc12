/-
  slices.Clone and slices.Delete (of one element) at []Span.
-/
import Derived.Test.YtkdafincnmkjnaaBestS
import Derived.Lib.SliceRun
import Derived.Deep.RegionLaw
import Derived.Laws.IdiomCopy
set_option linter.unusedVariables false
set_option linter.unusedSimpArgs false
namespace Go.Proofs.Ytkdafincnmkjnaa
open Go.RowKit
theorem SpansAt.sl {w : World} {v : Value} {xs : List Sp} (h : SpansAt w v xs) : SlAt 3 fSpan w v xs := by
  obtain ⟨ao, cap, rfl, h1, h2, hr⟩ := h
  refine ⟨ao, cap, rfl, h1, h2, fun i x hi => ?_⟩
  obtain ⟨hl, rfl⟩ := List.getElem?_eq_some_iff.1 hi
  obtain ⟨g, o, rfl, hg, c0, c1, c2⟩ := hr i hl
  refine ⟨g, o, rfl, hg, fun j v hj => ?_⟩
  match j, hj with
  | 0, hj => simp [fSpan] at hj; subst hj; exact c0
  | 1, hj => simp [fSpan] at hj; subst hj; exact c1
  | 2, hj => simp [fSpan] at hj; subst hj; exact c2
  | j + 3, hj => simp [fSpan] at hj
theorem l_CloneSp (v : Value) (xs : List Sp) (hs : xs.length ≤ 1048576) (w : World) (ha : SpansAt w v xs) : Calls Try.prog 86 #[v] w fun e w' => ∃ v', e = .returned v' ∧ OwnSp w.heap.size w' v' xs ∧ Below w.heap.size w w' := by
  have HA := Lib.hid ha.sl
  obtain ⟨ao, ca, rfl, _, _, hrd⟩ := ha.open
  clear ha
  have qT : ∀ (w : World) (a : Option Addr) (n c n' c' : Nat), (binOp .eql 24 (.slice a n c) (.slice none n' c')).run Try.prog w = .ok (.bool a.isNone) w := fun w a n c n' c' => Lib.run_eql_slice_nil w _ _ a n c n' c' Try.underlying24
  rcases ao with _ | a
  · obtain rfl : xs = [] := by
      cases xs with
      | nil => rfl
      | cons x r => obtain ⟨g, o, h, _⟩ := hrd 0 (by simp); cases h
    clear hrd HA
    (have hall := all_nil w; go_enter Try.func86, Try.ntmps86)
    go_wp2_with fail
    go_ret
    exact ⟨_, rfl, Own.nil _ _ _ _ _, by exact bel⟩
  · clear hrd
    (have hall := all_nil w; go_enter Try.func86, Try.ntmps86)
    go_wp2_with (first | (at_builtin; refine wpList_appendAll elemSpan rfl _ _ rfl lenSpan oneSpan rfl (Own.empty' _ _ _ (w.heap.size) _ _ (by simp) (by exact zt)) (by exact zt) rfl (HA.out.below (by exact bel)) (by simp only [List.length_nil, maxLen]; omega) ?_; intro v2 w2 hown2 hgr2 hat2 hb; (try simp only [List.nil_append] at hown2); obtain ⟨v2o, v2c, rfl, -, -⟩ := hown2.shape; skip))
    go_ret
    exact ⟨_, rfl, hown2, by exact bel⟩
theorem sizeCells (b : Nat) : ∀ (vs : List Value) (o : Nat) (w : World), (w.setCells b o vs).heap.size = w.heap.size
  | [], _, _ => rfl
  | v :: vs, o, w => by rw [World.setCells, sizeCells b vs]; simp
theorem getD_lt {xs : List Sp} {i : Nat} (h : i < xs.length) : xs.getD i default = xs[i] := by rw [List.getD_eq_getElem?_getD, List.getElem?_eq_getElem h, Option.getD_some]
/-- The cells behind 'append(s[:i], s[i+1:]...)' and the clearing of the last element. -/
theorem del_at {w : World} {g n cap i : Nat} {xs : List Sp} (hn : xs.length = n + 1) (hi : i < n + 1) (hg : g < w.heap.size) (hcap : n + 1 ≤ cap) (hm : cap ≤ maxLen)
    (hr : ∀ t, t < n + 1 → ∀ j u, (fSpan (xs.getD t default))[j]? = some u → w.cell? ⟨g, t * 3 + j, none⟩ = some u) (zs : List Value) :
    SpansAt ((w.setCells g (i * 3) ((xs.drop (i + 1)).flatMap fSpan)).setCells g (n * 3) zs) (.slice (some ⟨g, 0, none⟩) n cap) (xs.eraseIdx i) := by
  have hl : (xs.eraseIdx i).length = n := by rw [List.length_eraseIdx, if_pos (by omega)]; omega
  have hnl : ((xs.drop (i + 1)).flatMap fSpan).length = (n - i) * 3 := by rw [flat_len lenSpan, List.length_drop]; congr 1; omega
  have hz : ∀ j, j < ((xs.drop (i + 1)).flatMap fSpan).length → (w.cell? ⟨g, i * 3 + j, none⟩).isSome = true := by
    intro j hj
    rw [hnl] at hj
    have := hr (i + j / 3) (by omega) (j % 3) _ (List.getElem?_eq_getElem (by rw [lenSpan]; omega))
    rw [show i * 3 + j = (i + j / 3) * 3 + j % 3 by omega, this]; rfl
  have key : ∀ t, t < n → ∀ j u, (fSpan ((xs.eraseIdx i).getD t default))[j]? = some u → ((w.setCells g (i * 3) ((xs.drop (i + 1)).flatMap fSpan)).setCells g (n * 3) zs).cell? ⟨g, t * 3 + j, none⟩ = some u := by
    intro t ht j u hu
    have hj : j < 3 := by have := (List.getElem?_eq_some_iff.1 hu).1; rwa [lenSpan] at this
    rw [World.cell?_setCells_out _ _ _ _ _ (fun _ _ => .inl (show t * 3 + j < n * 3 by omega))]
    have hge : (xs.eraseIdx i).getD t default = if t < i then xs.getD t default else xs.getD (t + 1) default := by
      simp only [List.getD_eq_getElem?_getD, List.getElem?_eraseIdx]; split <;> rfl
    rw [hge] at hu
    by_cases h : t < i
    · rw [if_pos h] at hu
      rw [World.cell?_setCells_out _ _ _ _ _ (fun _ _ => .inl (show t * 3 + j < i * 3 by omega))]
      exact hr t (by omega) j u hu
    · rw [if_neg h] at hu
      have := World.cell?_setCells_in g ((xs.drop (i + 1)).flatMap fSpan) (i * 3) w hz ((t - i) * 3 + j) (by rw [hnl]; omega)
      rw [show t * 3 + j = i * 3 + ((t - i) * 3 + j) by omega, this, ← List.getElem?_eq_getElem, flat_get lenSpan _ (t - i) j (by rw [List.length_drop]; omega) hj]
      rw [List.getElem_drop, ← hu, getD_lt (by omega)]
      congr 3; omega
  refine ⟨some ⟨g, 0, none⟩, cap, by rw [hl], by omega, hm, fun t ht => ⟨g, 0, rfl, ?_, ?_, ?_, ?_⟩⟩
  · exact Nat.lt_of_lt_of_le hg (Nat.le_of_eq (by rw [sizeCells, sizeCells]))
  · rw [Nat.zero_add]; have := key t (by omega) 0; rw [getD_lt ht] at this; simpa [fSpan] using this
  · rw [Nat.zero_add]; have := key t (by omega) 1; rw [getD_lt ht] at this; simpa [fSpan] using this
  · rw [Nat.zero_add]; have := key t (by omega) 2; rw [getD_lt ht] at this; simpa [fSpan] using this
end Go.Proofs.Ytkdafincnmkjnaa
