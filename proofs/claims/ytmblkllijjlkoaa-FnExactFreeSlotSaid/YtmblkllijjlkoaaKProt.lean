/-
  A page is protected: the kernel behind it.
-/
import Derived.Test.YtmblkllijjlkoaaKCall
set_option linter.unusedVariables false
set_option linter.unusedSimpArgs false
namespace Go.Proofs.Ytmblkllijjlkoaa
open Go.RowKit
def setEnt (K : Ker) (p : Int) (e : Ent) : Ker := ⟨⟨K.m.f, K.m.ents.set p.toNat e⟩, K.calls, K.refuse⟩
theorem flat_set2 : ∀ (xs : List Ent) (i : Nat) (x : Ent), xs[i]? = some x → ∀ m : Int, (xs.flatMap fEnt).set (i * 2) (.int .i64 m) = (xs.set i ⟨m, x.f⟩).flatMap fEnt
  | [], i, x, hi, m => by simp at hi
  | y :: ys, 0, x, hi, m => by
    simp only [List.getElem?_cons_zero, Option.some.injEq] at hi
    subst hi
    simp [fEnt]
  | y :: ys, i + 1, x, hi, m => by
    simp only [List.getElem?_cons_succ] at hi
    have ih := flat_set2 ys i x hi m
    simp only [List.flatMap_cons, fEnt, List.set_cons_succ]
    rw [show (i + 1) * 2 = i * 2 + 1 + 1 by omega]
    simp only [List.cons_append, List.nil_append, List.set_cons_succ]
    rw [← ih]
theorem OwnEnt.setMode {B : Nat} {w : World} {v : Value} {xs : List Ent} {g n cap i : Nat} {x : Ent} (h : OwnEnt B w v xs) (hv : v = .slice (some ⟨g, 0, none⟩) n cap) (hi : xs[i]? = some x) (m : Int) :
    OwnEnt B (w.setCell ⟨g, i * 2, none⟩ (.int .i64 m)) v (xs.set i ⟨m, x.f⟩) ∧ w.grownBy (w.setCell ⟨g, i * 2, none⟩ (.int .i64 m)) v.ownBlock := by
  have hn : n = xs.length := by
    obtain ⟨ao, cap', he, _⟩ := h.shape
    rw [hv] at he; simp at he; exact he.2.1
  subst hv
  subst hn
  unfold OwnEnt Own at h
  obtain ⟨h1, h2⟩ := World.ownsRow.stored h (i * 2) (.int .i64 m)
  refine ⟨?_, h2⟩
  unfold OwnEnt Own
  rw [List.length_set, ← flat_set2 xs i x hi m]
  exact h1
/-- The entries have been written: all else stays. -/
theorem KOwn.setEnts {B : Nat} {w w' : World} {y : KV} {K : Ker} {es : List Ent} (h : KOwn B w y K) (hgr : w.grownBy w' y.m.e.ownBlock) (he : OwnEnt B w' y.m.e es) : KOwn B w' y ⟨⟨K.m.f, es⟩, K.calls, K.refuse⟩ := by
  have ap1 := nodup_apart (l := [y.m.e]) h.m.nd
  have ap2 := nodup_apart (l := [y.r]) h.nd
  have ht : Touch (blocks [y.m.e]) w w' := grown_touch hgr fun g hg => mem_one hg
  refine ⟨⟨h.m.f.touch ht (fun g hg hm => ap1 g hm hg), he, h.m.nd⟩, h.ref.touch ht fun g hg hm => ?_, h.nd⟩
  exact ap2 g (mem_one hg) (sub_left [y.m.e] _ g hm)
theorem KOwn.setMode {B : Nat} {w : World} {y : KV} {K : Ker} {g n cap i : Nat} {x : Ent} (h : KOwn B w y K) (hv : y.m.e = .slice (some ⟨g, 0, none⟩) n cap) (hi : K.m.ents[i]? = some x) (m : Int) :
    KOwn B (w.setCell ⟨g, i * 2, none⟩ (.int .i64 m)) y (setEnt K i ⟨m, x.f⟩) := by
  have S := OwnEnt.setMode h.m.ents hv hi m
  have := h.setEnts S.2 S.1
  unfold setEnt
  rw [Int.toNat_natCast]
  exact this
theorem mode_in {m : Int} (h1 : (m != 1) = true) (h2 : (m != 2) = true) : between m 1 2 = false := by
  simp at h1 h2
  rw [between_not]; omega
theorem mode_1 {m : Int} (h : (m == 1) = true) : between m 1 2 = true := by simp at h; subst h; rfl
theorem mode_2 {m : Int} (h : (m == 2) = true) : between m 1 2 = true := by simp at h; subst h; rfl
def protB (K : Ker) (p mode : Int) : Bool := grantedB K && mappedB K.m.ents p && between mode 1 2
def kProtK (K : Ker) (p mode : Int) : Ker := if canCall K then (if protB K p mode then setEnt (countedK K) p ⟨mode, (pageEntry K.m.ents p).f⟩ else countedK K) else K
theorem canCall_calls {K : Ker} (h : canCall K = true) : 0 ≤ K.calls ∧ K.calls ≤ 100000 := by
  unfold canCall at h
  rw [kernelOk_eq] at h; simp only [Bool.and_eq_true, between_iff] at h; exact h.2.1.1.2
theorem mapped_in {es : List Ent} {p : Int} (h : mappedB es p = true) : ∃ (k : Nat) (x : Ent), p = k ∧ es[k]? = some x ∧ pageEntry es p = x := by
  unfold mappedB at h
  by_cases hb : between p 0 (es.length - 1) = true
  · have hbb := between_iff.1 hb
    obtain ⟨k, rfl⟩ := Int.eq_ofNat_of_zero_le hbb.1
    obtain ⟨x, hx⟩ := getx (show k < es.length by omega)
    exact ⟨k, x, rfl, hx, by unfold pageEntry; rw [if_pos hb, Int.toNat_natCast, getD_of hx]⟩
  · unfold pageEntry at h
    rw [if_neg hb] at h
    simp at h

end Go.Proofs.Ytmblkllijjlkoaa
