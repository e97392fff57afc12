/-
  Texts put together: RowLib.
-/
import Derived.Test.YtmblkllijjlkoaaGreatGB3
import Derived.Test.YtmblkllijjlkoaaGreatGB6
/-
  Slices of slices of the call's own: one of the slices is put in place of another, or appended. No Go text is named here.
-/
set_option linter.unusedVariables false
set_option linter.unusedSimpArgs false
namespace Go.Proofs.YtmblkllijjlkoaaGreat
open Go.RowKit
theorem blocks_set {l : List Value} {i : Nat} {v : Value} : ∀ g ∈ blocks (l.set i v), g ∈ blocks l ∨ v.ownBlock = some g := by
  intro g hg
  obtain ⟨u, hu, hb⟩ := mem_blocks.1 hg
  rcases List.mem_or_eq_of_mem_set hu with h | h
  · exact .inl (mem_blocks.2 ⟨u, h, hb⟩)
  · exact .inr (h ▸ hb)
theorem nodup_set {l : List Value} {i : Nat} {v : Value} (h : (blocks l).Nodup) (hv : ∀ g, v.ownBlock = some g → g ∉ blocks l) : (blocks (l.set i v)).Nodup := by
  induction l generalizing i with
  | nil => simpa using h
  | cons a l ih =>
    have h2 : (blocks ([a] ++ l)).Nodup := h
    have hsub : ∀ g, g ∈ blocks l → g ∈ blocks (a :: l) := fun g hg => blocks_sub (fun u hu => List.mem_cons_of_mem _ hu) g hg
    cases i with
    | zero =>
      rw [List.set_cons_zero]
      exact nodup_blocks (l := [v]) (nodup_one v) (nodup_right h2) fun g hg hm => by
        obtain ⟨u, hu, hb⟩ := mem_blocks.1 hg
        simp at hu; subst hu
        exact hv g hb (hsub g hm)
    | succ i =>
      rw [List.set_cons_succ]
      refine nodup_blocks (l := [a]) (nodup_one a) (ih (nodup_right h2) fun g hg hm => hv g hg (hsub g hm)) fun g hg hm => ?_
      rcases blocks_set g hm with h3 | h3
      · exact nodup_apart h2 g hg h3
      · exact hv g h3 (blocks_sub (l := [a]) (fun u hu => by simp at hu; subst hu; simp) g hg)
theorem nodup_snoc {l : List Value} {v : Value} (h : (blocks l).Nodup) (hv : ∀ g, v.ownBlock = some g → g ∉ blocks l) : (blocks (l ++ [v])).Nodup :=
  nodup_blocks h (nodup_one v) fun g hg hm => by
    obtain ⟨u, hu, hb⟩ := mem_blocks.1 hm
    simp at hu; subst hu
    exact hv g hb hg
theorem nodup_head {c c' : Value} {l : List Value} (h : (blocks (c :: l)).Nodup) (hc : ∀ g, c'.ownBlock = some g → g ∉ blocks l) : (blocks (c' :: l)).Nodup :=
  nodup_blocks (l := [c']) (nodup_one c') (nodup_right (l := [c]) h) fun g hg hm => by
    obtain ⟨u, hu, hb⟩ := mem_blocks.1 hg
    simp at hu; subst hu
    exact hc g hb hm
section
variable {α : Type} {ES E : Nat} {f : α → List Value} {B B' : Nat} {w w' : World} {c : Value} {vs : List Value} {rows : List (List α)}
theorem OwnRows.nilAll (n : Nat) (h : Own ES 1 fVal B w c (List.replicate n (.slice none 0 0))) : OwnRows ES E f B w c (List.replicate n (.slice none 0 0)) (List.replicate n ([] : List α)) :=
  ⟨h, by simp, fun i v r hv hr => by
    rw [List.getElem?_replicate] at hv hr
    split at hv
    · cases hv
      rename_i hi
      rw [if_pos hi] at hr
      cases hr
      exact Own.nil _ _ _ _ _
    · cases hv⟩
theorem blocks_nils (n : Nat) : blocks (List.replicate n (.slice none 0 0)) = [] := by
  induction n with
  | zero => rfl
  | succ n ih => rw [List.replicate_succ]; exact ih
/-- One of the slices is stored anew. -/
theorem OwnRows.setVal (h : OwnRows ES E f B w c vs rows) (hnd : (blocks (c :: vs)).Nodup) {g n cap i : Nat} (hc : c = .slice (some ⟨g, 0, none⟩) n cap) {v : Value} {r : List α} (hv : Own E 1 f B w v r) (hne : v.ownBlock ≠ some g) (hi : i < vs.length) :
    OwnRows ES E f B (w.setCell ⟨g, i, none⟩ v) c (vs.set i v) (rows.set i r) ∧ w.grownBy (w.setCell ⟨g, i, none⟩ v) c.ownBlock := by
  have S := Own.set1 lenVal h.out hc i v v rfl
  have hap := nodup_apart (l := [c]) hnd
  refine ⟨⟨S.1, by rw [List.length_set, List.length_set]; exact h.len, fun j u r' hu hr => ?_⟩, S.2⟩
  have hcg : c.ownBlock = some g := by rw [hc]; rfl
  rw [List.getElem?_set] at hu hr
  split at hu
  · rename_i e
    subst e
    try rw [if_pos hi] at hu
    cases hu
    rw [if_pos rfl] at hr
    try rw [if_pos (by rw [← h.len]; exact hi)] at hr
    cases hr
    exact hv.setCell _ _ hne
  · rename_i e
    rw [if_neg e] at hr
    refine (h.row j u r' hu hr).setCell _ _ fun e2 => ?_
    exact hap g (mem_blocks.2 ⟨c, by simp, hcg⟩) (mem_blocks.2 ⟨u, List.mem_of_getElem? hu, e2⟩)
/-- One more has been appended. -/
theorem OwnRows.snoc {c' v : Value} {r : List α} (h : OwnRows ES E f B w c vs rows) (hnd : (blocks (c :: vs)).Nodup) (ho : Own ES 1 fVal B w' c' (vs ++ [v])) (hgr : w.grownBy w' c.ownBlock) (hv : Own E 1 f B w' v r) : OwnRows ES E f B w' c' (vs ++ [v]) (rows ++ [r]) := by
  have hap := nodup_apart (l := [c]) hnd
  refine ⟨ho, by simp [h.len], fun j u r' hu hr => ?_⟩
  rcases Nat.lt_or_ge j vs.length with h1 | h1
  · rw [List.getElem?_append_left h1] at hu
    rw [List.getElem?_append_left (by rw [← h.len]; exact h1)] at hr
    exact (h.row j u r' hu hr).kept fun g hg => hgr.block g ((h.row j u r' hu hr).lt g hg).2 fun e => hap g (mem_blocks.2 ⟨c, by simp, e.symm⟩) (mem_blocks.2 ⟨u, List.mem_of_getElem? hu, hg⟩)
  · have hj : j = vs.length := by have := getx_lt hu; simp at this; omega
    subst hj
    rw [List.getElem?_append_right (Nat.le_refl _), Nat.sub_self] at hu
    rw [List.getElem?_append_right (by rw [h.len]; exact Nat.le_refl _), h.len, Nat.sub_self] at hr
    simp at hu hr
    subst hu hr
    exact hv
end
/-- A store into a block below what the call owns. -/
theorem Own.offb {α : Type} {E k B : Nat} {f : α → List Value} {w : World} {v : Value} {xs : List α} (h : Own E k f B w v xs) {b o : Nat} (hb : b < B) (u : Value) : Own E k f B (w.setCell ⟨b, o, none⟩ u) v xs :=
  h.setCell _ _ fun e => by have := (h.lt b e).1; omega
theorem OwnRows.offb {α : Type} {ES E B : Nat} {f : α → List Value} {w : World} {c : Value} {vs : List Value} {rows : List (List α)} (h : OwnRows ES E f B w c vs rows) {b o : Nat} (hb : b < B) (u : Value) : OwnRows ES E f B (w.setCell ⟨b, o, none⟩ u) c vs rows :=
  ⟨h.out.offb hb u, h.len, fun i v r hv hr => (h.row i v r hv hr).offb hb u⟩
theorem nodup_grow {c c' nv : Value} {us : List Value} {N : Nat} (h : (blocks (c :: us)).Nodup) (hn : ∀ g, nv.ownBlock = some g → g ∉ blocks (c :: us)) (hat : c'.ownBlock = c.ownBlock ∨ c'.ownBlock = some N) (hlt : ∀ g ∈ blocks (us ++ [nv]), g < N) : (blocks (c' :: (us ++ [nv]))).Nodup := by
  have h1 : (blocks (c :: (us ++ [nv]))).Nodup := nodup_snoc (l := c :: us) h hn
  refine nodup_head h1 fun g hg hm => ?_
  rcases hat with e | e
  · exact nodup_apart (l := [c]) h1 g (mem_blocks.2 ⟨c, by simp, e ▸ hg⟩) hm
  · have := hlt g hm
    rw [e] at hg
    cases hg
    omega
theorem Own.belowB {α : Type} {E k B B2 : Nat} {f : α → List Value} {w w' : World} {v : Value} {xs : List α} (h : Own E k f B w v xs) (hb : Below B2 w w') (hlt : ∀ g, v.ownBlock = some g → g < B2) : Own E k f B w' v xs :=
  h.kept fun g hg => hb.block g (hlt g hg)
theorem Own.grownNe {α : Type} {E k B : Nat} {f : α → List Value} {w w' : World} {v : Value} {xs : List α} {row : Option Nat} (h : Own E k f B w v xs) (hgr : w.grownBy w' row) (hne : ∀ g, v.ownBlock = some g → some g ≠ row) : Own E k f B w' v xs :=
  h.kept fun g hg => hgr.block g (h.lt g hg).2 (hne g hg)
/-! The numbers of cells, and the marks. -/
def lensTo (rows : List (List Int)) : Nat → Nat
  | 0 => 0
  | k + 1 => lensTo rows k + (rows.getD k []).length
def tot (rows : List (List Int)) : Nat := lensTo rows rows.length
theorem lensTo_mono (rows : List (List Int)) {j k : Nat} (h : j ≤ k) : lensTo rows j ≤ lensTo rows k := by
  induction k with
  | zero => obtain rfl : j = 0 := by omega
            exact Nat.le_refl _
  | succ k ih =>
    rcases Nat.lt_or_ge j (k + 1) with h1 | h1
    · have := ih (by omega); rw [lensTo]; omega
    · obtain rfl : j = k + 1 := by omega
      exact Nat.le_refl _
theorem lensTo_succ {rows : List (List Int)} {j : Nat} {r : List Int} (h : rows[j]? = some r) : lensTo rows (j + 1) = lensTo rows j + r.length := by rw [lensTo, getD_of h]
def markRows (k : Int) (rows : List (List Int)) : List (List Int) := (List.range rows.length).map fun i => marksI (k + lensTo rows i) (rows.getD i []).length
theorem markRows_len (k : Int) (rows : List (List Int)) : (markRows k rows).length = rows.length := by simp [markRows]
theorem markRows_get {k : Int} {rows : List (List Int)} {j : Nat} {r : List Int} (h : rows[j]? = some r) : (markRows k rows)[j]? = some (marksI (k + lensTo rows j) r.length) := by
  have hlt := getx_lt h
  rw [List.getElem?_eq_getElem (by rw [markRows_len]; exact hlt)]
  simp only [markRows, List.getElem_map, List.getElem_range, getD_of h]
def mixRows (k : Int) (rows : List (List Int)) (j : Nat) : List (List Int) := (markRows k rows).take j ++ rows.drop j
theorem mixRows_len {k : Int} {rows : List (List Int)} {j : Nat} (h : j ≤ rows.length) : (mixRows k rows j).length = rows.length := by simp [mixRows, markRows_len]; omega
theorem mixRows_get {k : Int} {rows : List (List Int)} {j : Nat} {r : List Int} (h : rows[j]? = some r) : (mixRows k rows j)[j]? = some r := by
  have hlt := getx_lt h
  unfold mixRows
  rw [List.getElem?_append_right (by rw [List.length_take]; exact Nat.min_le_left _ _), List.length_take, markRows_len, Nat.min_eq_left (by omega), Nat.sub_self, List.getElem?_drop, Nat.add_zero, h]
theorem mixRows_set {k : Int} {rows : List (List Int)} {j : Nat} {r : List Int} (h : rows[j]? = some r) : (mixRows k rows j).set j (marksI (k + lensTo rows j) r.length) = mixRows k rows (j + 1) := by
  have hlt := getx_lt h
  have hl : ((markRows k rows).take j).length = j := by rw [List.length_take, markRows_len]; omega
  unfold mixRows
  rw [List.set_append_right _ _ (by omega), hl, Nat.sub_self, List.drop_eq_getElem_cons hlt, List.set_cons_zero, List.take_add_one, markRows_get h]
  simp
theorem mixRows_full (k : Int) (rows : List (List Int)) : mixRows k rows rows.length = markRows k rows := by
  unfold mixRows; rw [List.drop_length, List.append_nil, List.take_of_length_le (by rw [markRows_len]; exact Nat.le_refl _)]
theorem mixRows_zero (k : Int) (rows : List (List Int)) : mixRows k rows 0 = rows := by simp [mixRows]
theorem setx {α : Type} {xs : List α} {j : Nat} {x : α} (z : α) (n : Nat) (hx : xs[j]? = some x) (hn : n = xs.length) : (xs.take j ++ List.replicate (n - j) z).set j x = xs.take (j + 1) ++ List.replicate (n - (j + 1)) z := by
  have hlt := getx_lt hx
  have e : xs[j] = x := by rw [List.getElem?_eq_getElem hlt] at hx; exact Option.some.inj hx
  rw [← e]; exact mix_set xs z hn hlt
end Go.Proofs.YtmblkllijjlkoaaGreat
