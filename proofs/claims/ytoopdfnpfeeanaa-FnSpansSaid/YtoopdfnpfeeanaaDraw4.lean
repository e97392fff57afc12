/-
  One span that is drawn anew.
-/
import Derived.Test.YtoopdfnpfeeanaaDraw3
set_option linter.unusedVariables false
set_option linter.unusedSimpArgs false
namespace Go.Proofs.Ytoopdfnpfeeanaa
open Go.RowKit
def NewSpan (w : World) (e : Ending) (w' : World) : Prop := ∃ s : Sp, e = .returned s.val ∧ (0 ≤ s.p ∧ s.p ≤ 7) ∧ (0 ≤ s.c ∧ s.c ≤ 3) ∧ (0 ≤ s.b ∧ s.b < 2 ^ slotsNat s.c) ∧ Below w.heap.size w w'
theorem BytesAt.mono {B B' : Nat} {w : World} {v : Value} {n : Nat} (h : BytesAt B w v n) (hB : B ≤ B') : BytesAt B' w v n := by
  obtain ⟨ao, cap, rfl, hn, hj⟩ := h
  refine ⟨ao, cap, rfl, hn, fun j hlt => ?_⟩
  obtain ⟨b, o, x, h1, h2, h3⟩ := hj j hlt
  exact ⟨b, o, x, h1, by omega, h3⟩
theorem BytesAt.grew {w w' : World} {v : Value} {n : Nat} (h : BytesAt w.heap.size w v n) (hb : Below w.heap.size w w') : BytesAt w'.heap.size w' v n :=
  (h.stays fun k hk => hb.block k hk).mono hb.size
theorem s_DrawSpan (v : Value) (n : Nat) (w : World) (hv : BytesAt w.heap.size w v n) : Calls Try.prog 19 #[v] w (NewSpan w) := by
  have hall := all_nil w
  have HV := Lib.hid hv; clear hv
  (have hall := all_nil w; go_enter Try.func19, Try.ntmps19)
  go_wp2_with fail
  have hb1 : Below w.heap.size w (w.alloc (.cells #[.int .i64 0, .int .i64 0, .int .i64 0] 25)) := (Below.refl _ _).alloc (Nat.le_refl _) _
  refine (s_l01New _ n _ (HV.out.grew hb1)).mono ?_; rintro e w0 ⟨g, rfl, hcur, hb0⟩
  have hBg := hcur.1
  have hgl := hcur.2.1
  have hc0 := fun o => hb0.cell (p := ⟨w.heap.size, o, none⟩) (by simp)
  have hf0 := fun o => hb0.frozen (p := ⟨w.heap.size, o, none⟩) (by simp)
  have hz0 := hb0.size
  simp only [World.size_alloc] at hz0 hBg
  have hne : g ≠ w.heap.size := by omega
  go_wp2_with fail
  refine (s_l09Span _ g _ hcur).mono ?_; rintro e w1 ⟨s, rfl, hp, hc, hb, _, hgr⟩
  have hc1 := grown_cell hgr (b := w.heap.size) (by omega) hne
  have hf1 := grown_frozen hgr (b := w.heap.size) (by omega) hne
  have hz1 := hgr.size
  have hx0 : w.heap.size < w0.heap.size := by omega
  have hx1 : w.heap.size < w1.heap.size := by omega
  obtain ⟨p, c, b⟩ := s
  simp only [Sp.val] at *
  have HP : Hid ((0 ≤ p ∧ p ≤ 7) ∧ (0 ≤ c ∧ c ≤ 3) ∧ (0 ≤ b ∧ b < 2 ^ slotsNat c)) := ⟨hp, hc, hb⟩
  have HB : Hid (Below w.heap.size w w1) := (hb1.trans (hb0.mono (by simp))).trans (below_of_grown hgr (by omega) (by omega))
  clear hp hc hb hb1 hb0 hgr hcur
  go_wp2_with fail
  refine bodyPost_ret (v := Sp.val ⟨p, c, b⟩) (by simp [results, Try.results19, go_sem, Sp.val, *]) rfl ⟨⟨p, c, b⟩, rfl, HP.out.1, HP.out.2.1, HP.out.2.2, ?_⟩
  have hB := HB.out
  exact bel
end Go.Proofs.Ytoopdfnpfeeanaa
