/-
  slices.Delete (of one element) at []Span.
-/
import Derived.Test.YtkdafincnmkjnaaDel
import Derived.Test.YtkdafincnmkjnaaAppend
set_option linter.unusedVariables false
set_option linter.unusedSimpArgs false
namespace Go.Proofs.Ytkdafincnmkjnaa
open Go.RowKit Go.Deep
theorem addlit (b o t : Nat) : (⟨b, o, none⟩ : Addr).add t = ⟨b, o + t, none⟩ := by unfold Addr.add; split <;> simp_all
theorem belCells {B b : Nat} (hb : B ≤ b) {a : World} : ∀ (vs : List Value) (o : Nat) {w : World}, Below B a w → Below B a (w.setCells b o vs)
  | [], _, _, h => h
  | v :: vs, o, w, h => by rw [World.setCells]; exact belCells hb vs _ (h.setCell (p := ⟨b, o, none⟩) hb v)
theorem run_clear1 (w : World) (ty : TypeId) (b o c : Nat)
    (hc : ∀ j, j < 3 → (w.cell? ⟨b, o + j, none⟩).isSome = true) (hf : ∀ j, j < 3 → w.frozen? ⟨b, o + j, none⟩ = false) :
    (Builtin.clear_ #[24] ty #[.slice (some ⟨b, o, none⟩) 1 c]).run Try.prog w = .ok (.tuple #[]) (w.setCells b o [.int .i64 0, .int .i64 0, .int .i64 0]) := by
  have hv : ∀ w, (zeroValue 31).run Try.prog w = .ok (.agg #[.int .i64 0, .int .i64 0, .int .i64 0]) w := fun w => by kernel_rfl
  have hzc : (Builtin.zeroCells (Value.agg #[.int .i64 0, .int .i64 0, .int .i64 0]).cells 1).toList = [.int .i64 0, .int .i64 0, .int .i64 0] := by kernel_rfl
  have hst := run_storeCells_cells (P := Try.prog) b o [.int .i64 0, .int .i64 0, .int .i64 0] 0 w (by simpa using hc) (by simpa using hf) (by intro v hv'; simp at hv'; subst hv'; rfl)
  simp only [Nat.add_zero] at hst
  simp [Builtin.clear_, run_underlying Try.underlying24, hv, hzc, hst]
set_option maxHeartbeats 4000000 in
set_option maxRecDepth 100000 in
theorem l_DeleteSp {B : Nat} (v : Value) (xs : List Sp) (i : Nat) (hi : i < xs.length) (hxl : xs.length ≤ 1048576) (w : World) (h : OwnSp B w v xs) : Calls Try.prog 85 #[v, .int .i64 (i : Nat), .int .i64 ((i : Int) + 1)] w fun e w' => ∃ v', e = .returned v' ∧ SpansAt w' v' (xs.eraseIdx i) ∧ Below B w w' := by
  obtain ⟨g, cap, rfl, hB, hg⟩ := Own.addr h (by omega)
  obtain ⟨ao', cap', he, hcap, hm, hr⟩ := Own.read h lenSpan
  simp only [Value.slice.injEq] at he
  obtain ⟨rfl, -, rfl⟩ := he
  have hi1 : ((i : Int) + 1) = ((i + 1 : Nat) : Int) := by omega
  rw [hi1]
  clear hi1
  obtain ⟨n, hn⟩ : ∃ n, xs.length = n + 1 := ⟨xs.length - 1, by omega⟩
  have hrd : ∀ t, t < n + 1 → ∀ j u, (fSpan (xs.getD t default))[j]? = some u → w.cell? ⟨g, t * 3 + j, none⟩ = some u := by
    intro t ht j u hu
    obtain ⟨g', hg', -, -, -, hc⟩ := hr t (by omega)
    simp only [Option.some.injEq, Addr.mk.injEq, and_true] at hg'
    subst hg'
    rw [hc j (by have := (List.getElem?_eq_some_iff.1 hu).1; rwa [lenSpan] at this), ← hu, getD_lt (by omega)]
  have hfz : ∀ o, w.frozen? ⟨g, o, none⟩ = false := by
    obtain ⟨g', hg', -, -, hf, -⟩ := hr 0 (by omega)
    simp only [Option.some.injEq, Addr.mk.injEq, and_true] at hg'
    subst hg'
    exact hf
  have hsm : ∀ o, o < (n + 1) * 3 → (w.cell? ⟨g, o, none⟩).isSome = true := by
    intro o ho
    have := hrd (o / 3) (by omega) (o % 3) _ (List.getElem?_eq_getElem (by rw [lenSpan]; omega))
    rw [show o = (o / 3) * 3 + o % 3 by omega, this]; rfl
  obtain ⟨news, hnews⟩ : ∃ news, news = (xs.drop (i + 1)).flatMap fSpan := ⟨_, rfl⟩
  have hnl : news.length = (n - i) * 3 := by rw [hnews, flat_len lenSpan, List.length_drop]; congr 1; omega
  have hin : i ≤ n := by omega
  obtain ⟨p, hp⟩ : ∃ p, p = n - i := ⟨_, rfl⟩
  obtain ⟨A, hA, hsrc⟩ : ∃ A : Addr, (if cap = i + 1 then some (⟨g, 0, none⟩ : Addr) else some ⟨g, (i + 1) * 3, none⟩) = some A ∧ Hid (∀ t u, news[t]? = some u → w.drew.cell? (A.add t) = some u) := by
    by_cases h : cap = i + 1
    · refine ⟨⟨g, 0, none⟩, by simp [h], fun t u hu => ?_⟩
      have h0 : news.length = 0 := by rw [hnl]; omega
      rw [List.length_eq_zero_iff.1 h0] at hu
      simp at hu
    · refine ⟨⟨g, (i + 1) * 3, none⟩, by simp [h], fun t u hu => ?_⟩
      obtain ⟨a, b, x, rfl, hx, hb⟩ := flatMap_at lenSpan (by rw [← hnews]; exact hu)
      rw [List.getElem?_drop] at hx
      have hb3 : b < 3 := by have := (List.getElem?_eq_some_iff.1 hb).1; rwa [lenSpan] at this
      have hax := getx_lt hx
      have := hrd (i + 1 + a) (by omega) b u (by rw [getD_of hx]; exact hb)
      rw [addlit, show (i + 1) * 3 + (a * 3 + b) = (i + 1 + a) * 3 + b by omega]
      exact this
  have HS3 := Lib.hid (fun t (ht : t < news.length) => (⟨hsm (i * 3 + t) (by rw [hnl] at ht; omega), hfz _⟩ : (w.drew.cell? ⟨g, i * 3 + t, none⟩).isSome = true ∧ w.drew.frozen? ⟨g, i * 3 + t, none⟩ = false))
  have HNL := Lib.hid hnl
  have s2 : Hid (∀ u ∈ news, u.oneCell' = true) := by
    intro u hu
    rw [hnews] at hu
    obtain ⟨x, _, hx⟩ := List.mem_flatMap.1 hu
    exact oneSpan x u hx
  obtain ⟨W1, hW1⟩ : ∃ W1, W1 = w.drew.setCells g (i * 3) news := ⟨_, rfl⟩
  have hcl : ∀ ty c, (Builtin.clear_ #[24] ty #[.slice (some ⟨g, n * 3, none⟩) 1 c]).run Try.prog W1 = .ok (.tuple #[]) (W1.setCells g (n * 3) [.int .i64 0, .int .i64 0, .int .i64 0]) := fun ty c => by
    refine run_clear1 W1 ty g (n * 3) c (fun j hj => ?_) (fun j hj => ?_)
    · rw [hW1, World.cell?_setCells_out _ _ _ _ _ (fun _ _ => .inr (show i * 3 + news.length ≤ n * 3 + j by rw [hnl]; omega))]
      exact hsm _ (by omega)
    · rw [hW1, World.frozen?_setCells]; exact hfz _
  have hfin : SpansAt (W1.setCells g (n * 3) [.int .i64 0, .int .i64 0, .int .i64 0]) (.slice (some ⟨g, 0, none⟩) n cap) (xs.eraseIdx i) := by
    rw [hW1, hnews]
    exact del_at (w := w.drew) hn (by omega) hg (by omega) hm hrd _
  have hbel : Below B w (W1.setCells g (n * 3) [.int .i64 0, .int .i64 0, .int .i64 0]) := by
    rw [hW1]
    exact belCells hB _ _ (belCells hB _ _ (Below.refl B w).drew)
  have HFIN := Lib.hid hfin; have HBEL := Lib.hid hbel; have HW := Lib.hid hW1
  rw [hn] at hcap ⊢
  have hcm : cap ≤ 9223372036854775807 := by unfold maxLen at hm; omega
  have hin1 : i + 1 ≤ n + 1 := by omega
  have hic : i ≤ cap := by omega
  have hjc : i + 1 ≤ cap := by omega
  have hcn : ¬ cap = n := by omega
  have hnc : n ≤ cap := by omega
  have hn1 : n + 1 ≤ cap := by omega
  have hi0z : (0 : Int) ≤ (i : Int) + 1 := by omega
  clear hrd hr h hsm hfz hW1 hfin hbel hm hnews hnl
  obtain ⟨i0, hi0, hz0, hz1, hz2⟩ := elemSpan.info
  (have hall := all_nil w; go_enter Try.func85, Try.ntmps85)
  go_wp2_with fail
  go_region_law (refine step_append_room rfl (.tmp 22) (.tmp 25) 24 rfl 31 i0 3 Try.underlying24 hi0 hz1 g 0 i cap (by simp [Act.eval, Act.put]) A (n - i) (cap - (i + 1)) news (by simp [Act.eval, Act.put]; done) HNL.out hsrc.out s2.out (by omega) (fun t ht => by rw [Nat.zero_add]; exact HS3.out t ht) ?_; rw [Nat.zero_add, ← HW.out, show i + (n - i) = n by omega])
  go_wp2_with fail
  go_ret
  exact ⟨_, rfl, HFIN.out, HBEL.out⟩
end Go.Proofs.Ytkdafincnmkjnaa
