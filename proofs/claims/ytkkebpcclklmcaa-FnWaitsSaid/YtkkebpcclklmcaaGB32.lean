/-
  Texts put together: DrSt.
-/
import Derived.Test.YtkkebpcclklmcaaGB29
import Derived.Test.YtkkebpcclklmcaaGB31
import Derived.Test.YtkkebpcclklmcaaGB24
import Derived.Test.YtkkebpcclklmcaaGB23
/-
  A draw's kernel in a box, its cursor, the blocks beside them: what a step keeps. Plain laws.
-/
set_option linter.unusedVariables false
set_option linter.unusedSimpArgs false
namespace Go.Proofs.Ytkkebpcclklmcaa
open Go.RowKit
theorem BytesAt.monoN {B B' : Nat} {w : World} {v : Value} {n : Nat} (h : BytesAt B w v n) (hB : B ≤ B') : BytesAt B' w v n := by
  obtain ⟨ao, cap, rfl, hn, hj⟩ := h
  refine ⟨ao, cap, rfl, hn, fun j hlt => ?_⟩
  obtain ⟨b, o, x, h1, h2, h3⟩ := hj j hlt
  exact ⟨b, o, x, h1, by omega, h3⟩
theorem BytesAt.grewN {w w' : World} {v : Value} {n : Nat} (h : BytesAt w.heap.size w v n) (hb : Below w.heap.size w w') : BytesAt w'.heap.size w' v n :=
  (h.stays fun k hk => hb.block k hk).monoN hb.size
theorem Cur.setN {B : Nat} {w : World} {g b : Nat} (h : Cur B w g) (hB : B ≤ b) (hne : g ≠ b) (o : Nat) (v : Value) : Cur B (w.setCell ⟨b, o, none⟩ v) g :=
  h.stays (by simp) fun k hk => Below.heap_setCell _ _ _ _ (fun e => by rcases hk with hk | hk <;> simp at e <;> omega)
theorem grown_setN {w w' : World} {g b : Nat} (h : w.grownBy w' (some g)) (hb : w.heap.size ≤ b) (o : Nat) (v : Value) : w.grownBy (w'.setCell ⟨b, o, none⟩ v) (some g) :=
  ⟨h.os, h.tape, h.output, by simpa using h.size, fun i hi hr => (Below.heap_setCell _ _ _ _ (fun e => by simp at e; omega)).trans (h.block i hi hr)⟩
theorem grown_touchN {w a b : World} {g : Nat} {S : List Nat} (h : w.grownBy a (some g)) (t : Touch S a b) (hS : ∀ s ∈ S, s = g ∨ w.heap.size ≤ s) : w.grownBy b (some g) :=
  ⟨t.os.trans h.os, t.tape.trans h.tape, t.output.trans h.output, Nat.le_trans h.size t.size, fun i hi hr => (t.block i (Nat.lt_of_lt_of_le hi h.size) (fun hm => by
    rcases hS i hm with e | e
    · exact hr (by rw [e])
    · omega)).trans (h.block i hi hr)⟩
theorem curTouch {B g : Nat} {w a b : World} {S : List Nat} (h : Cur B a g) (hg : g < w.heap.size) (t : Touch S a b) (hS : ∀ s ∈ S, w.heap.size ≤ s) : Cur B b g :=
  h.stays t.size fun k hk => t.block k (by have := h.lt; have := h.1; omega) fun hm => by have h1 := hS k hm; have h2 := h.1; omega
def Keep (X : List Nat) (a b : World) : Prop := ∀ k ∈ X, b.heap[k]? = a.heap[k]?
structure DrSt (B : Nat) (w wr : World) (g gk : Nat) (y : KV) (K : Ker) (X : List Nat) : Prop where
  kin : KIn w.heap.size wr gk y K
  cur : Cur B wr g
  grew : w.grownBy wr (some g)
  hg : g < w.heap.size
  ex : ∀ b ∈ X, w.heap.size ≤ b ∧ b < wr.heap.size ∧ b ≠ gk ∧ b ∉ blocks y.all
section
variable {B : Nat} {w wr wr' : World} {g gk : Nat} {y y' : KV} {K K' : Ker} {X : List Nat}
theorem Keep.mono {X Y : List Nat} {a b : World} (h : Keep X a b) (hs : ∀ k ∈ Y, k ∈ X) : Keep Y a b := fun k hk => h k (hs k hk)
theorem Keep.trans {X : List Nat} {a b c : World} (h : Keep X a b) (h' : Keep X b c) : Keep X a c := fun k hk => (h' k hk).trans (h k hk)
theorem Keep.cell {X : List Nat} {a b : World} (h : Keep X a b) {k : Nat} (hk : k ∈ X) (o : Nat) : b.cell? ⟨k, o, none⟩ = a.cell? ⟨k, o, none⟩ := World.cell?_of_block (w := a) (h k hk)
theorem Keep.frozen {X : List Nat} {a b : World} (h : Keep X a b) {k : Nat} (hk : k ∈ X) (o : Nat) : b.frozen? ⟨k, o, none⟩ = a.frozen? ⟨k, o, none⟩ := World.frozen?_of_block (w := a) (h k hk)
theorem BoxAt.keep {X : List Nat} {a b : World} {k : Nat} {cs : List Value} (h : BoxAt a k cs) (hk : Keep X a b) (hm : k ∈ X) (hs : a.heap.size ≤ b.heap.size) : BoxAt b k cs :=
  ⟨by have := h.lt; omega, fun i v hi => ⟨(hk.cell hm i).trans (h.cells i v hi).1, (hk.frozen hm i).trans (h.cells i v hi).2⟩⟩
theorem Own.keep {α : Type} {E n b0 : Nat} {f : α → List Value} {v : Value} {xs : List α} {X : List Nat} {a b : World} (h : Own E n f b0 a v xs) (hk : Keep X a b) (hm : ∀ k ∈ blocks [v], k ∈ X) : Own E n f b0 b v xs :=
  h.kept fun k hk' => hk k (hm k (mem_one hk'))
theorem KIn.touchN {S : List Nat} (h : KIn B wr gk y K) (ht : Touch S wr wr') (hg : gk ∉ S) (hb : ∀ b ∈ blocks y.all, b ∉ S) : KIn B wr' gk y K :=
  ⟨h.box.touch ht hg, h.own.touch ht hb, h.hB, h.ne⟩
theorem DrSt.size (h : DrSt B w wr g gk y K X) : w.heap.size ≤ wr.heap.size := h.grew.size
theorem DrSt.gkl (h : DrSt B w wr g gk y K X) : w.heap.size ≤ gk ∧ gk < wr.heap.size := ⟨h.kin.hB, h.kin.box.lt⟩
theorem DrSt.gne (h : DrSt B w wr g gk y K X) : g ≠ gk ∧ g ∉ blocks y.all ∧ g ∉ X := by
  have h1 := h.gkl; have h2 := h.hg
  refine ⟨by omega, fun hm => ?_, fun hm => ?_⟩
  · have := (h.kin.own.lts g hm).1; omega
  · have := (h.ex g hm).1; omega
theorem DrSt.nextX (h : DrSt B w wr g gk y K X) {X' : List Nat} (hk : KIn w.heap.size wr' gk y' K') (hc : Cur B wr' g) (hgr : w.grownBy wr' (some g)) (hx : ∀ b ∈ X', w.heap.size ≤ b ∧ b < wr'.heap.size ∧ b ≠ gk ∧ b ∉ blocks y'.all) : DrSt B w wr' g gk y' K' X' := ⟨hk, hc, hgr, h.hg, hx⟩
theorem DrSt.next (h : DrSt B w wr g gk y K X) (hk : KIn w.heap.size wr' gk y' K') (ht : Touch (g :: gk :: blocks y.all) wr wr') (hf : ∀ b ∈ blocks y'.all, b ∈ blocks y.all ∨ wr.heap.size ≤ b) (hc : Cur B wr' g) : DrSt B w wr' g gk y' K' X ∧ Keep X wr wr' := by
  have hs := h.size
  have hs' := ht.size
  refine ⟨⟨hk, hc, ⟨ht.os.trans h.grew.os, ht.tape.trans h.grew.tape, ht.output.trans h.grew.output, by omega, fun i hi hr => ?_⟩, h.hg, fun b hb => ?_⟩, fun k hk' => ?_⟩
  · refine (ht.block i (by omega) fun hm => ?_).trans (h.grew.block i hi hr)
    rcases List.mem_cons.1 hm with rfl | hm
    · exact hr rfl
    · rcases List.mem_cons.1 hm with rfl | hm
      · have := h.gkl; omega
      · have := (h.kin.own.lts i hm).1; omega
  · obtain ⟨h1, h2, h3, h4⟩ := h.ex b hb
    refine ⟨h1, by omega, h3, fun hm => ?_⟩
    rcases hf b hm with hm | hm
    · exact h4 hm
    · omega
  · obtain ⟨h1, h2, h3, h4⟩ := h.ex k hk'
    refine ht.block k h2 fun hm => ?_
    rcases List.mem_cons.1 hm with rfl | hm
    · have := h.hg; omega
    · rcases List.mem_cons.1 hm with rfl | hm
      · exact h3 rfl
      · exact h4 hm
/-- A step of the kernel. -/
theorem DrSt.kstep (h : DrSt B w wr g gk y K X) (hk : KIn w.heap.size wr' gk y' K') (ht : Touch (gk :: blocks y.all) wr wr') (hf : ∀ b ∈ blocks y'.all, b ∈ blocks y.all ∨ wr.heap.size ≤ b) : DrSt B w wr' g gk y' K' X ∧ Keep X wr wr' := by
  refine h.next hk (ht.mono fun b hb => List.mem_cons_of_mem _ hb) hf (h.cur.stays ht.size fun k hk' => ht.block k ?_ fun hm => ?_)
  · have := h.cur.lt; have := h.cur.1; omega
  · have h1 := h.hg; have h2 := h.cur.1; have h3 := h.gkl
    rcases List.mem_cons.1 hm with rfl | hm
    · omega
    · have := (h.kin.own.lts k hm).1; omega
theorem DrSt.below (h : DrSt B w wr g gk y K X) (hb : Below wr.heap.size wr wr') : DrSt B w wr' g gk y K X ∧ Keep X wr wr' :=
  h.kstep (h.kin.below hb) (touch_of_below hb _) fun b hb => .inl hb
/-- A call on the cursor. -/
theorem DrSt.draw (h : DrSt B w wr g gk y K X) (hgr : wr.grownBy wr' (some g)) (hc : Cur B wr' g) : DrSt B w wr' g gk y K X ∧ Keep X wr wr' := by
  have hne := h.gne
  have ht : Touch [g] wr wr' := grown_touch hgr fun b hb => by cases hb; exact List.mem_singleton.2 rfl
  exact h.next (h.kin.touchN ht (fun hm => hne.1 (List.mem_singleton.1 hm).symm) fun b hb hm => hne.2.1 (by rw [← List.mem_singleton.1 hm]; exact hb)) (ht.mono fun b hb => by rw [List.mem_singleton.1 hb]; exact List.mem_cons_self ..) (fun b hb => .inl hb) hc
/-- Some block of those beside the kernel is written, or new ones are made. -/
theorem DrSt.other (h : DrSt B w wr g gk y K X) {S X' : List Nat} (ht : Touch S wr wr') (hS : ∀ b ∈ S, b ∈ X) (hX : ∀ b ∈ X', b ∈ X ∨ (wr.heap.size ≤ b ∧ b < wr'.heap.size)) : DrSt B w wr' g gk y K X' := by
  have hne := h.gne
  have hs := h.size; have hs' := ht.size
  have nS : ∀ b, b ∈ S → w.heap.size ≤ b ∧ b < wr.heap.size ∧ b ≠ gk ∧ b ∉ blocks y.all := fun b hb => h.ex b (hS b hb)
  refine ⟨h.kin.touchN ht (fun hm => (nS _ hm).2.2.1 rfl) fun b hb hm => (nS _ hm).2.2.2 hb, ?_, ⟨ht.os.trans h.grew.os, ht.tape.trans h.grew.tape, ht.output.trans h.grew.output, by omega, fun i hi hr => ?_⟩, h.hg, fun b hb => ?_⟩
  · refine h.cur.stays ht.size fun k hk => ht.block k ?_ fun hm => ?_
    · have := h.cur.lt; have := h.cur.1; omega
    · have h1 := h.hg; have h2 := h.cur.1; have h3 := (nS k hm).1; omega
  · exact (ht.block i (by omega) fun hm => by have := (nS i hm).1; omega).trans (h.grew.block i hi hr)
  · rcases hX b hb with hb | ⟨h1, h2⟩
    · obtain ⟨h1, h2, h3, h4⟩ := h.ex b hb
      exact ⟨h1, by omega, h3, h4⟩
    · exact ⟨by omega, h2, by have := h.gkl; omega, fun hm => by have := (h.kin.own.lts b hm).2; omega⟩
theorem DrSt.sub (h : DrSt B w wr g gk y K X) {X' : List Nat} (hX : ∀ b ∈ X', b ∈ X) : DrSt B w wr g gk y K X' := ⟨h.kin, h.cur, h.grew, h.hg, fun b hb => h.ex b (hX b hb)⟩
end
/-- The machine of a kernel in a box is put anew. -/
theorem KIn.setM {B n : Nat} {w : World} {gk : Nat} {y : KV} {K : Ker} {c u e : Value} {vs : List Value} {M : Mac} (h : KIn B w gk y K) (ho : MOwn n w ⟨⟨c, u, vs⟩, e⟩ M) (hg : gk < n) (hb : ∀ b ∈ blocks [y.r], b < n) (hB : B ≤ n) :
    KIn B (((w.setCell ⟨gk, 0, none⟩ c).setCell ⟨gk, 1, none⟩ u).setCell ⟨gk, 2, none⟩ e) gk ⟨⟨⟨c, u, vs⟩, e⟩, y.r⟩ ⟨M, K.calls, K.refuse⟩ := by
  obtain ⟨xg, c0, c1, c2, c3, c4, f0, f1, f2, f3, f4⟩ := h.box
  have hne : gk ∉ blocks (MV.all ⟨⟨c, u, vs⟩, e⟩) := fun hm => by have := (ho.lts gk hm).1; omega
  have hner : gk ∉ blocks [y.r] := fun hm => h.ne (sub_left [y.r] _ gk hm)
  have ht : Touch [gk] w (((w.setCell ⟨gk, 0, none⟩ c).setCell ⟨gk, 1, none⟩ u).setCell ⟨gk, 2, none⟩ e) := touch_bx (touch_bx (touch_bx (Touch.refl _ _)))
  refine ⟨⟨by go_simp, by go_simp, by go_simp, by go_simp, by go_simp, by go_simp, by go_simp, by go_simp, by go_simp, by go_simp, by go_simp⟩, ⟨?_, ?_, ?_⟩, h.hB, ?_⟩
  · exact (ho.touch ht fun b hb hm => hne (by rw [← List.mem_singleton.1 hm]; exact hb)).mono hB
  · exact Own.touch h.own.ref ht fun b hb hm => hner (by rw [← List.mem_singleton.1 hm]; exact mem_one hb)
  · exact nodup_blocks (l := [y.r]) (nodup_one _) ho.nd fun b hb' hm => by have h1 := hb b hb'; have h2 := (ho.lts b hm).1; omega
  · intro hm
    rw [show (KV.all ⟨⟨⟨c, u, vs⟩, e⟩, y.r⟩) = [y.r] ++ MV.all ⟨⟨c, u, vs⟩, e⟩ from rfl, blocks_append, List.mem_append] at hm
    exact hm.elim hner hne
theorem lensTo_16 {rows : List (List Int)} (h : ∀ (i : Nat) (r : List Int), rows[i]? = some r → r.length = 16) : ∀ k, k ≤ rows.length → lensTo rows k ≤ 16 * k := by
  intro k
  induction k with
  | zero => intro _; simp [lensTo]
  | succ k ih =>
    intro hk
    obtain ⟨r, hr⟩ := getx (xs := rows) (k := k) (by omega)
    have h1 := ih (by omega)
    have h2 := h k r hr
    rw [lensTo, getD_of hr]
    omega
theorem mok_sz {M : Mac} (h : MOk M) : szM M ≤ 1048576 := by
  have h1 : tot M.f.cells ≤ 16 * M.f.cells.length := lensTo_16 (fun i r hr => by
    obtain ⟨u, hu⟩ := getx (xs := M.f.used) (k := i) (by rw [h.u1]; exact getx_lt hr)
    exact (h.row i r u hr hu).1) _ (Nat.le_refl _)
  have h2 := h.n1; have h3 := h.u1; have h4 := h.e1
  unfold szM szF
  omega
theorem mok_szK {K : Ker} (h : MOk K.m) : szK K ≤ 1000 + K.refuse.length := by
  have h1 : tot K.m.f.cells ≤ 16 * K.m.f.cells.length := lensTo_16 (fun i r hr => by
    obtain ⟨u, hu⟩ := getx (xs := K.m.f.used) (k := i) (by rw [h.u1]; exact getx_lt hr)
    exact (h.row i r u hr hu).1) _ (Nat.le_refl _)
  have h2 := h.n1; have h3 := h.u1; have h4 := h.e1
  unfold szK szM szF
  omega
theorem nat_wrap {k : Nat} (h : k ≤ 99999) : wrap64 (k : Int) = k := IntWalk.wrap64_in _ (by omega)
theorem nat_wrapI {k : Nat} (h : k ≤ 99999) : IntKind.i64.wrap (k : Int) = k := IntWalk.i64_in _ (by omega)
theorem tmod_nat {q : Int} {m : Nat} (h0 : 0 ≤ q) (hm : 0 < m) (hm2 : m ≤ 9999) : ∃ i : Nat, q.tmod (m : Int) = (i : Int) ∧ i < m ∧ (i : Int) < (m : Int) ∧ wrap64 (i : Int) = i := by
  rw [Int.tmod_eq_emod_of_nonneg h0]
  have h1 := Int.emod_nonneg q (show (m : Int) ≠ 0 by omega)
  have h2 := Int.emod_lt_of_pos q (show (0 : Int) < (m : Int) by omega)
  generalize q % (m : Int) = r at *
  obtain ⟨i, rfl⟩ := Int.eq_ofNat_of_zero_le h1
  exact ⟨i, rfl, by omega, h2, IntWalk.wrap64_in _ (by omega)⟩
end Go.Proofs.Ytkkebpcclklmcaa
