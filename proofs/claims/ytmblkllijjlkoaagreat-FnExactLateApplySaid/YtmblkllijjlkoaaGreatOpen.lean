/-
  Arguments of the laws that are slices, slices of slices, or structs of such: what can be read of them.
-/
import Derived.Test.YtmblkllijjlkoaaGreatFrame
import Derived.Test.YtmblkllijjlkoaaGreatMem
import Derived.Test.YtmblkllijjlkoaaGreatInts
import Derived.Deep.Slices
import Derived.Deep.Fields
set_option linter.unusedVariables false
set_option linter.unusedSimpArgs false
namespace Go.Proofs.YtmblkllijjlkoaaGreat
open Go.ChangeShapes Go.WideShapes Go.ChangeAt Go.RowKit Go.Deep
theorem addr_pl (a : Addr) (w : World) (v : Value) (h : w.cell? a = some v) : ∃ b o, a = ⟨b, o, none⟩ ∧ b < w.heap.size := by
  obtain ⟨b, o, s⟩ := a
  cases s with
  | none => exact ⟨b, o, rfl, World.block_lt_of_cell? w ⟨b, o, none⟩ h⟩
  | some s =>
    exfalso
    unfold World.cell? at h
    split at h
    · simp at h
    · simp at h
theorem addr_ad (b o i : Nat) : (⟨b, o, none⟩ : Addr).add i = ⟨b, o + i, none⟩ := by unfold Addr.add; split <;> simp_all
theorem listOf {α : Type} (R : Nat → α → Prop) : ∀ n, (∀ i, i < n → ∃ x, R i x) → ∃ xs : List α, xs.length = n ∧ ∀ i x, xs[i]? = some x → R i x
  | 0, _ => ⟨[], rfl, fun i x hi => by simp at hi⟩
  | n + 1, h => by
    obtain ⟨xs, hl, hx⟩ := listOf R n (fun i hi => h i (by omega))
    obtain ⟨x, hr⟩ := h n (by omega)
    refine ⟨xs ++ [x], by simp [hl], fun i y hi => ?_⟩
    rcases Nat.lt_or_ge i n with h1 | h1
    · rw [List.getElem?_append_left (by omega)] at hi; exact hx i y hi
    · have hlt := getx_lt hi
      have : i = n := by simp [hl] at hlt; omega
      subst this
      rw [List.getElem?_append_right (by omega), hl, Nat.sub_self] at hi
      simp at hi
      subst hi
      exact hr
section
variable {H : Type} {enc : TypeId × Value → H} {P : Program} {W : World} {base : Nat} {t e : TypeId} {v : Value} {d : DataW H} {p : List MemPlace}
/-- A slice that can be read, and of each element what R says. -/
theorem slat_open {α : Type} {k : Nat} {f : α → List Value} {fuel : Nat} {y : DataW H × List MemPlace} (R : α → Prop) (ht : P.underlying t = some (.slice e)) (hC : P.cellsOf e = k) (hpos : 0 < k)
    (hR : ∀ m cs y, cs.length = k → DataW.trod enc P W 0 (fun _ => true) true m e cs = some y → ∃ x : α, cs = f x ∧ R x)
    (h : DataW.trod enc P W 0 (fun _ => true) true fuel t [v] = some y) : ∃ xs : List α, SlAt k f W v xs ∧ ∀ x ∈ xs, R x := by
  subst hC
  rcases open_slice ht h with ⟨hcs, _⟩ | ⟨a, len, cap, m, n, D, Pl, hcs, hb, hl, hm, hmm, _, hi⟩
  · simp only [List.cons.injEq, and_true] at hcs
    subst hcs
    exact ⟨[], ⟨none, 0, rfl, Nat.le_refl _, Nat.zero_le _, fun i x hi => by simp at hi⟩, by simp⟩
  · simp only [List.cons.injEq, and_true] at hcs
    subst hcs
    simp only [if_true] at hmm
    by_cases hl0 : len = 0
    · subst hl0
      exact ⟨[], ⟨some a, cap, rfl, Nat.zero_le _, hm, fun i x hi => by simp at hi⟩, by simp⟩
    obtain ⟨cs0, h01, _⟩ := hi 0 (by omega)
    obtain ⟨_, hcl0, hat0⟩ := World.cells?_some h01
    have h00 := hat0 0 hpos
    rw [List.getElem?_eq_getElem (by omega), Nat.zero_mul] at h00
    have hself : (a.add 0).add 0 = a := rfl
    rw [hself] at h00
    obtain ⟨b, o, rfl, hbW⟩ := addr_pl a W _ h00
    obtain ⟨xs, hlen, hx⟩ := listOf (fun i (x : α) => (∀ j u, (f x)[j]? = some u → W.cell? ⟨b, o + i * P.cellsOf e + j, none⟩ = some u) ∧ R x) len (fun i hlt => by
      obtain ⟨cs', h1, h2⟩ := hi i (by omega)
      obtain ⟨_, hcl, hat⟩ := World.cells?_some h1
      obtain ⟨x, rfl, hr⟩ := hR _ _ _ hcl h2
      refine ⟨x, fun j u hj => ?_, hr⟩
      have h4 := hat j (by rw [← hcl]; exact getx_lt hj)
      rw [addr_ad, addr_ad] at h4
      rw [h4, hj])
    subst hlen
    refine ⟨xs, ⟨some _, cap, rfl, hl, hm, fun i x hi' => ⟨b, o, rfl, hbW, (hx i x hi').1⟩⟩, fun x hmem => ?_⟩
    obtain ⟨i, hi'⟩ := List.getElem?_of_mem hmem
    exact (hx i x hi').2
theorem ints_open {fuel : Nat} {y : DataW H × List MemPlace} (ht : P.underlying t = some (.slice e)) (he : P.underlying e = some (.int .i64)) (hC : P.cellsOf e = 1)
    (h : DataW.trod enc P W 0 (fun _ => true) true fuel t [v] = some y) : ∃ xs : List Int, SlAt 1 fInt W v xs :=
  (slat_open (fun _ => True) ht hC (by omega) (fun m cs y _ hy => by
    obtain ⟨x, rfl, _, _⟩ := DataW.trod_int he hy
    exact ⟨x, rfl, trivial⟩) h).imp fun _ h => h.1
theorem bools_open {fuel : Nat} {y : DataW H × List MemPlace} {f : Bool → List Value} (hf : ∀ b, f b = [.bool b]) (ht : P.underlying t = some (.slice e)) (he : P.underlying e = some .bool) (hC : P.cellsOf e = 1)
    (h : DataW.trod enc P W 0 (fun _ => true) true fuel t [v] = some y) : ∃ xs : List Bool, SlAt 1 f W v xs :=
  (slat_open (fun _ => True) ht hC (by omega) (fun m cs y _ hy => by
    obtain ⟨x, rfl, _⟩ := DataW.trod_bool he hy
    exact ⟨x, (hf x).symm, trivial⟩) h).imp fun _ h => h.1
theorem rows_open {fuel : Nat} {y : DataW H × List MemPlace} {q : TypeId} (ht : P.underlying t = some (.slice e)) (he : P.underlying e = some (.slice q)) (hq : P.underlying q = some (.int .i64)) (hC : P.cellsOf e = 1) (hD : P.cellsOf q = 1)
    (h : DataW.trod enc P W 0 (fun _ => true) true fuel t [v] = some y) : ∃ vs rows, RowsAt fInt W v vs rows := by
  obtain ⟨vs, hs, hr⟩ := slat_open (f := fVal) (fun u => ∃ xs : List Int, SlAt 1 fInt W u xs) ht hC (by omega) (fun m cs y hl hy => by
    match cs, hl with
    | [c], _ => exact ⟨c, rfl, ints_open he hq hD hy⟩) h
  obtain ⟨rows, hlen, hx⟩ := listOf (fun i (r : List Int) => ∀ u, vs[i]? = some u → SlAt 1 fInt W u r) vs.length (fun i hi => by
    obtain ⟨u, hu⟩ := getx hi
    obtain ⟨r, hr'⟩ := hr u (List.mem_of_getElem? hu)
    exact ⟨r, fun u' hu' => by rw [hu] at hu'; cases hu'; exact hr'⟩)
  exact ⟨vs, rows, hs, hlen.symm, fun i u r hu hr' => hx i r hr' u hu⟩
/-- The fields of a struct among the arguments. -/
theorem fields_open {fs : Array Field} (hs : P.underlying t = some (.struct fs)) (hok : Value.okWide P W .any base t v) (h : DataW.Trod enc P W 0 (fun _ => true) true t v d p) :
    ∃ cs : Array Value, v = .agg cs ∧ cs.size = P.cellsOf t ∧ ∃ n, ∀ (j : Nat) (f : Field), fs[j]? = some f → ∃ y, DataW.trod enc P W 0 (fun _ => true) true n f.type ((cs.toList.drop f.offset).take (P.cellsOf f.type)) = some y := by
  obtain ⟨cs, rfl, hsz⟩ := okWide_struct hs hok
  obtain ⟨fuel, hf⟩ := h
  obtain ⟨xs, n, _, _, _, hl, hg⟩ := DataW.trod_struct hs hf
  refine ⟨cs, rfl, hsz, n, fun j f hj => ?_⟩
  have h1 := hg j f hj
  rw [List.getElem?_eq_getElem (by rw [hl]; exact (Array.getElem?_eq_some_iff.1 hj).1)] at h1
  exact ⟨_, h1⟩
theorem sub_open {fs : Array Field} {fuel : Nat} {cs : List Value} {y : DataW H × List MemPlace} (hs : P.underlying t = some (.struct fs)) (h : DataW.trod enc P W 0 (fun _ => true) true fuel t cs = some y) :
    ∃ n, ∀ (j : Nat) (f : Field), fs[j]? = some f → ∃ y', DataW.trod enc P W 0 (fun _ => true) true n f.type ((cs.drop f.offset).take (P.cellsOf f.type)) = some y' := by
  obtain ⟨xs, n, _, _, _, hl, hg⟩ := DataW.trod_struct hs h
  refine ⟨n, fun j f hj => ?_⟩
  have h1 := hg j f hj
  rw [List.getElem?_eq_getElem (by rw [hl]; exact (Array.getElem?_eq_some_iff.1 hj).1)] at h1
  exact ⟨_, h1⟩
theorem arr1 {cs : Array Value} (h : cs.size = 1) : ∃ a, cs = #[a] := by
  obtain ⟨l⟩ := cs; match l, h with | [a], _ => exact ⟨a, rfl⟩
theorem arr2 {cs : Array Value} (h : cs.size = 2) : ∃ a b, cs = #[a, b] := by
  obtain ⟨l⟩ := cs; match l, h with | [a, b], _ => exact ⟨a, b, rfl⟩
theorem arr3 {cs : Array Value} (h : cs.size = 3) : ∃ a b c, cs = #[a, b, c] := by
  obtain ⟨l⟩ := cs; match l, h with | [a, b, c], _ => exact ⟨a, b, c, rfl⟩
theorem arr5 {cs : Array Value} (h : cs.size = 5) : ∃ a b c d e, cs = #[a, b, c, d, e] := by
  obtain ⟨l⟩ := cs; match l, h with | [a, b, c, d, e], _ => exact ⟨a, b, c, d, e, rfl⟩
end
end Go.Proofs.YtmblkllijjlkoaaGreat
