/-
  Texts put together: OkLaw2, DrSt, MachNew, MachNew2.
-/
import Derived.Test.YtobechjagckdfaaGLT12
import Derived.Test.YtobechjagckdfaaGLT9
import Derived.Test.YtobechjagckdfaaGLT11
import Derived.Test.YtobechjagckdfaaGLT10
import Derived.Deep.RegionLaw
/-
  Plain facts on machines in order that change at one place: rows, stores, loads, a page that is mapped.
-/
set_option linter.unusedVariables false
set_option linter.unusedSimpArgs false
namespace Go.Proofs.Ytobechjagckdfaa
theorem getElem?_set_cases {α : Type} {l : List α} {i j : Nat} {a b : α} (h : (l.set i a)[j]? = some b) : (j = i ∧ b = a) ∨ (j ≠ i ∧ l[j]? = some b) := by
  rw [List.getElem?_set] at h
  split at h
  · rename_i e
    split at h
    · cases h; exact .inl ⟨e.symm, rfl⟩
    · cases h
  · rename_i e
    exact .inr ⟨fun x => e x.symm, h⟩
theorem load_parts {M : Mac} {p i : Nat} {em : Int} {f : Nat} (hi : i < 16) (hok : MOk M) (he : pageEntry M.ents p = ⟨em, f⟩) (hem : em ≠ 0) : loadV M (16 * (p : Int) + i) = (M.f.cells.getD f []).getD i 0 ∧ loadF M (16 * (p : Int) + i) = 0 := by
  have d1 : (16 * (p : Int) + i) / 16 = p := by omega
  have d2 : (16 * (p : Int) + i) % 16 = i := by omega
  have hl : loadOkB M (16 * (p : Int) + i) = true := by
    unfold loadOkB mappedB
    rw [(machineOk_iff _).2 hok, d1, he, decide_eq_true (by omega)]
    simpa using hem
  unfold loadV loadF
  rw [hl, if_pos rfl, if_pos rfl, d1, d2, he]
  exact ⟨by simp, rfl⟩
def setC (M : Mac) (f i : Nat) (v : Int) : Mac := ⟨⟨M.f.cells.set f ((M.f.cells.getD f []).set i v), M.f.used⟩, M.ents⟩
theorem setC_ok {M : Mac} (h : MOk M) {f i : Nat} {v : Int} (hu : M.f.used[f]? = some true) (hv : 0 ≤ v ∧ v ≤ 999) : MOk (setC M f i v) := by
  unfold setC
  refine ⟨by simpa using h.n1, by simpa using h.u1, ?_, h.e1, h.ent, h.use⟩
  intro k r u hr hk
  dsimp only at hr hk
  rcases getElem?_set_cases hr with ⟨rfl, rfl⟩ | ⟨_, hr⟩
  · obtain ⟨r0, hr0⟩ := getx (xs := M.f.cells) (k := k) (by have := getx_lt hr; rwa [List.length_set] at this)
    rw [getD_of hr0]
    have h1 := h.row k r0 u hr0 hk
    refine ⟨by rw [List.length_set]; exact h1.1, fun j x hx => ?_⟩
    rw [hu] at hk; cases hk
    rcases getElem?_set_cases hx with ⟨_, rfl⟩ | ⟨_, hx⟩
    · exact ⟨hv.1, hv.2, fun hf => by cases hf⟩
    · exact h1.2 j x hx
  · exact h.row k r u hr hk
theorem store_parts {M : Mac} {p i : Nat} {em : Int} {f : Nat} {v : Int} (hi : i < 16) (hok : MOk M) (he : pageEntry M.ents p = ⟨em, f⟩) (hem : em ≠ 0) (hv : 0 ≤ v ∧ v ≤ 999) :
    storeF M ((p : Int) * 16 + i) v = (if em = 1 then 2 else 0) ∧ (em ≠ 1 → storeM M ((p : Int) * 16 + i) v = setC M f i v) := by
  have d1 : ((p : Int) * 16 + i) / 16 = p := by omega
  have d2 : ((p : Int) * 16 + i) % 16 = i := by omega
  have hl : loadOkB M ((p : Int) * 16 + i) = true := by
    unfold loadOkB mappedB
    rw [(machineOk_iff _).2 hok, d1, he, decide_eq_true (by omega)]
    simpa using hem
  have hF : storeF M ((p : Int) * 16 + i) v = (if em = 1 then 2 else 0) := by
    have hA : entA M ((p : Int) * 16 + i) = ⟨em, f⟩ := by
      unfold entA
      rw [if_neg (by omega), d1, he]
    unfold storeF
    rw [if_pos hl, hA, between_iff.2 hv]
    by_cases h1 : em = 1
    · rw [if_pos h1, if_pos (by simpa using h1)]
    · rw [if_neg h1, if_neg (by simpa using h1)]; rfl
  refine ⟨hF, fun h1 => ?_⟩
  unfold storeM
  rw [hF, if_neg h1, if_pos (by rfl), d1, d2, he]
  simp only [setC, Int.toNat_natCast]
theorem getD_set_ne {r : List Int} {i j : Nat} {v : Int} (h : i ≠ j) : (r.set i v).getD j 0 = r.getD j 0 := by
  rw [List.getD_eq_getElem?_getD, List.getElem?_set_ne h, ← List.getD_eq_getElem?_getD]
theorem getD_set_self {r : List Int} {i : Nat} {v : Int} (h : i < r.length) : (r.set i v).getD i 0 = v := by
  rw [List.getD_eq_getElem?_getD, List.getElem?_set_self h]; rfl
/-- A store keeps a machine in order. -/
theorem store_ok {M : Mac} (h : MOk M) (a v : Int) : MOk (storeM M a v) := by
  unfold storeM
  split
  · rename_i h0
    rw [beq_iff_eq] at h0
    unfold storeF at h0
    split at h0
    · rename_i hl
      unfold loadOkB mappedB at hl
      simp only [Bool.and_eq_true, decide_eq_true_eq, bne_iff_ne, ne_eq] at hl
      obtain ⟨k, hk, hke⟩ := pageEntry_m hl.2
      have he := h.ent k _ hke
      have hf := he.2.2.2.2 hl.2
      obtain ⟨f, hf0⟩ := Int.eq_ofNat_of_zero_le he.2.2.1
      rw [hf0] at hf ⊢
      obtain ⟨u, hu⟩ := getx (xs := M.f.used) (k := f) (by omega)
      have hut : u = true := (h.use f u hu).2 ⟨k, _, hke, hl.2, hf0⟩
      subst hut
      have hv : 0 ≤ v ∧ v ≤ 999 := by
        split at h0
        · simp at h0
        · split at h0
          · rename_i hb; exact between_iff.1 hb
          · simp at h0
      rw [Int.toNat_natCast]
      exact setC_ok h hu hv
    · simp at h0
  · exact h
theorem store_ents (M : Mac) (a v : Int) : (storeM M a v).ents = M.ents := by unfold storeM; split <;> rfl
/-- A new kernel: nothing is mapped. -/
def newK (n m : Nat) (rf : List Int) : Ker := ⟨⟨⟨List.replicate m (List.replicate 16 0), List.replicate m false⟩, List.replicate n ⟨0, 0⟩⟩, 0, rf⟩
theorem newK_ok {n m : Nat} {rf : List Int} (hn : 1 ≤ n ∧ n ≤ 32) (hm : 1 ≤ m ∧ m ≤ 32) : MOk (newK n m rf).m := by
  unfold newK
  refine ⟨by simpa using hm, by simp, ?_, by simpa using hn, ?_, ?_⟩
  · intro i r u hr hu
    dsimp only at hr
    rw [List.getElem?_replicate] at hr
    split at hr
    · cases hr
      refine ⟨by simp, fun j x hx => ?_⟩
      rw [List.getElem?_replicate] at hx
      split at hx
      · cases hx; exact ⟨by omega, by omega, fun _ => rfl⟩
      · cases hx
    · cases hr
  · intro i e he
    dsimp only at he
    rw [List.getElem?_replicate] at he
    split at he
    · cases he; exact ⟨by dsimp only; omega, by dsimp only; omega, by dsimp only; omega, fun _ => rfl, fun h => absurd rfl h⟩
    · cases he
  · intro i u hu
    dsimp only at hu ⊢
    rw [List.getElem?_replicate] at hu
    split at hu
    · cases hu
      refine ⟨fun h => (by cases h), fun ⟨k, e, hk, hm, _⟩ => ?_⟩
      rw [List.getElem?_replicate] at hk
      split at hk
      · cases hk; exact absurd rfl hm
      · cases hk
    · cases hu
theorem set_at {es : List Ent} {p i : Nat} {a e : Ent} (h : (es.set p a)[i]? = some e) : (i = p ∧ e = a) ∨ (i ≠ p ∧ es[i]? = some e) := getElem?_set_cases h
section
variable {K : Ker}
/-- A frame that is not used holds zeros. -/
theorem unused_zero (h : MOk K.m) {f : Nat} {r : List Int} (hu : K.m.f.used[f]? = some false) (hr : K.m.f.cells[f]? = some r) (j : Nat) : r.getD j 0 = 0 := by
  have h1 := (h.row f r false hr hu).2
  by_cases hj : j < r.length
  · rw [List.getD_eq_getElem?_getD, List.getElem?_eq_getElem hj]
    exact (h1 j _ (List.getElem?_eq_getElem hj)).2.2 rfl
  · rw [List.getD_eq_getElem?_getD, List.getElem?_eq_none (by omega)]; rfl
/-- A page is mapped (or the call is refused). -/
theorem mapNew_ok (h : MOk K.m) (p : Nat) : MOk (mapNewS K p).m ∧ (mapNewS K p).refuse = K.refuse ∧ (mapNewS K p).calls = K.calls + 1 := by
  unfold mapNewS
  split
  · rename_i hb
    unfold newB at hb
    simp only [Bool.and_eq_true, decide_eq_true_eq, Bool.not_eq_true', between_iff] at hb
    obtain ⟨⟨⟨-, hbt⟩, hmp⟩, h0⟩ := hb
    obtain ⟨f, hf, hu⟩ := freeIx_lt h0
    obtain ⟨e0, he0⟩ := getx (xs := K.m.ents) (k := p) (by omega)
    have hm0 : e0.m = 0 := by
      unfold mappedB at hmp
      rw [pageEntry_at he0] at hmp
      simpa using hmp
    have hfl := getx_lt hu
    refine ⟨?_, rfl, rfl⟩
    rw [hf]
    simp only [setEnt, withF, Int.toNat_natCast]
    refine ⟨by simpa using h.n1, by simpa using h.u1, ?_, by simpa using h.e1, ?_, ?_⟩
    · intro i r u hr hk
      dsimp only at hr hk
      rcases getElem?_set_cases hk with ⟨rfl, rfl⟩ | ⟨_, hk⟩
      · have := h.row i r false hr hu
        exact ⟨this.1, fun j x hx => ⟨(this.2 j x hx).1, (this.2 j x hx).2.1, fun hh => (by cases hh)⟩⟩
      · exact h.row i r u hr hk
    · intro i e he
      dsimp only at he ⊢
      rw [List.length_set]
      rcases getElem?_set_cases he with ⟨rfl, rfl⟩ | ⟨_, he⟩
      · exact ⟨by dsimp only; omega, by dsimp only; omega, by dsimp only; omega, fun hh => (by simp at hh), fun _ => by dsimp only; omega⟩
      · exact h.ent i e he
    · intro i u hk
      dsimp only at hk ⊢
      rcases getElem?_set_cases hk with ⟨rfl, rfl⟩ | ⟨hne, hk⟩
      · exact ⟨fun _ => ⟨p, ⟨2, i⟩, by rw [List.getElem?_set_self (getx_lt he0)], by simp, rfl⟩, fun _ => rfl⟩
      · rw [h.use i u hk]
        constructor
        · rintro ⟨k, e, hke, hm, hf2⟩
          have hkp : p ≠ k := fun e2 => by subst e2; rw [he0] at hke; cases hke; exact hm hm0
          exact ⟨k, e, by rw [List.getElem?_set_ne hkp]; exact hke, hm, hf2⟩
        · rintro ⟨k, e, hke, hm, hf2⟩
          rcases getElem?_set_cases hke with ⟨rfl, rfl⟩ | ⟨_, hke⟩
          · dsimp only at hf2; omega
          · exact ⟨k, e, hke, hm, hf2⟩
  · exact ⟨h, rfl, rfl⟩
end
end Go.Proofs.Ytobechjagckdfaa
/-
  A draw's kernel in a box, its cursor, the blocks beside them: what a step keeps. Plain laws.
-/
set_option linter.unusedVariables false
set_option linter.unusedSimpArgs false
namespace Go.Proofs.Ytobechjagckdfaa
open Go.RowKit
theorem BytesAt.monoN {B B' : Nat} {w : World} {v : Value} {n : Nat} (h : BytesAt B w v n) (hB : B ≤ B') : BytesAt B' w v n := by
  obtain ⟨ao, cap, rfl, hn, hj⟩ := h
  refine ⟨ao, cap, rfl, hn, fun j hlt => ?_⟩
  obtain ⟨b, o, x, h1, h2, h3⟩ := hj j hlt
  exact ⟨b, o, x, h1, by omega, h3⟩
theorem BytesAt.grewN {w w' : World} {v : Value} {n : Nat} (h : BytesAt w.heap.size w v n) (hb : Below w.heap.size w w') : BytesAt w'.heap.size w' v n :=
  (h.stays fun k hk => hb.block k hk).monoN hb.size
theorem Cur.setN {B : Nat} {w : World} {g b : Nat} (h : Cur B w g) (hB : B ≤ b) (hne : g ≠ b) (o : Nat) (v : Value) : Cur B (w.setCell ⟨b, o, none⟩ v) g :=
  h.stays (by simp) fun k hk => Below.heap_setCell _ _ _ _ (fun e => by rcases hk with hk | hk <;> simp at e <;> omega)
theorem grown_setN {w w' : World} {g b : Nat} (h : w.grownBy w' (some g)) (hb : w.heap.size ≤ b) (o : Nat) (v : Value) : w.grownBy (w'.setCell ⟨b, o, none⟩ v) (some g) :=
  ⟨h.os, h.tape, h.output, by simpa using h.size, fun i hi hr => (Below.heap_setCell _ _ _ _ (fun e => by simp at e; omega)).trans (h.block i hi hr)⟩
theorem fspanN (w : World) (s : Sp) : ∀ j u, (fSpan s)[j]? = some u → (w.alloc (.cells #[.int .i64 s.p, .int .i64 s.c, .int .i64 s.b] 49)).cell? ⟨w.heap.size, j, none⟩ = some u := by
  intro j u hj
  match j, hj with
  | 0, hj => simp [fSpan] at hj; subst hj; go_simp
  | 1, hj => simp [fSpan] at hj; subst hj; go_simp
  | 2, hj => simp [fSpan] at hj; subst hj; go_simp
  | j + 3, hj => simp [fSpan] at hj
def Keep (X : List Nat) (a b : World) : Prop := ∀ k ∈ X, b.heap[k]? = a.heap[k]?
structure DrSt (B : Nat) (w wr : World) (g gk : Nat) (y : KV) (K : Ker) (X : List Nat) : Prop where
  kin : KIn w.heap.size wr gk y K
  cur : Cur B wr g
  grew : w.grownBy wr (some g)
  hg : g < w.heap.size
  ex : ∀ b ∈ X, w.heap.size ≤ b ∧ b < wr.heap.size ∧ b ≠ gk ∧ b ∉ blocks y.all
section
variable {B : Nat} {w wr wr' : World} {g gk : Nat} {y y' : KV} {K K' : Ker} {X : List Nat}
theorem Keep.mono {X Y : List Nat} {a b : World} (h : Keep X a b) (hs : ∀ k ∈ Y, k ∈ X) : Keep Y a b := fun k hk => h k (hs k hk)
theorem Keep.trans {X : List Nat} {a b c : World} (h : Keep X a b) (h' : Keep X b c) : Keep X a c := fun k hk => (h' k hk).trans (h k hk)
theorem Keep.cell {X : List Nat} {a b : World} (h : Keep X a b) {k : Nat} (hk : k ∈ X) (o : Nat) : b.cell? ⟨k, o, none⟩ = a.cell? ⟨k, o, none⟩ := World.cell?_of_block (w := a) (h k hk)
theorem Keep.frozen {X : List Nat} {a b : World} (h : Keep X a b) {k : Nat} (hk : k ∈ X) (o : Nat) : b.frozen? ⟨k, o, none⟩ = a.frozen? ⟨k, o, none⟩ := World.frozen?_of_block (w := a) (h k hk)
theorem BoxAt.keep {X : List Nat} {a b : World} {k : Nat} {cs : List Value} (h : BoxAt a k cs) (hk : Keep X a b) (hm : k ∈ X) (hs : a.heap.size ≤ b.heap.size) : BoxAt b k cs :=
  ⟨by have := h.lt; omega, fun i v hi => ⟨(hk.cell hm i).trans (h.cells i v hi).1, (hk.frozen hm i).trans (h.cells i v hi).2⟩⟩
theorem Own.keep {α : Type} {E n b0 : Nat} {f : α → List Value} {v : Value} {xs : List α} {X : List Nat} {a b : World} (h : Own E n f b0 a v xs) (hk : Keep X a b) (hm : ∀ k ∈ blocks [v], k ∈ X) : Own E n f b0 b v xs :=
  h.kept fun k hk' => hk k (hm k (mem_one hk'))
theorem KIn.touchN {S : List Nat} (h : KIn B wr gk y K) (ht : Touch S wr wr') (hg : gk ∉ S) (hb : ∀ b ∈ blocks y.all, b ∉ S) : KIn B wr' gk y K :=
  ⟨h.box.touch ht hg, h.own.touch ht hb, h.hB, h.ne⟩
theorem DrSt.size (h : DrSt B w wr g gk y K X) : w.heap.size ≤ wr.heap.size := h.grew.size
theorem DrSt.gkl (h : DrSt B w wr g gk y K X) : w.heap.size ≤ gk ∧ gk < wr.heap.size := ⟨h.kin.hB, h.kin.box.lt⟩
theorem DrSt.gne (h : DrSt B w wr g gk y K X) : g ≠ gk ∧ g ∉ blocks y.all ∧ g ∉ X := by
  have h1 := h.gkl; have h2 := h.hg
  refine ⟨by omega, fun hm => ?_, fun hm => ?_⟩
  · have := (h.kin.own.lts g hm).1; omega
  · have := (h.ex g hm).1; omega
theorem DrSt.nextX (h : DrSt B w wr g gk y K X) {X' : List Nat} (hk : KIn w.heap.size wr' gk y' K') (hc : Cur B wr' g) (hgr : w.grownBy wr' (some g)) (hx : ∀ b ∈ X', w.heap.size ≤ b ∧ b < wr'.heap.size ∧ b ≠ gk ∧ b ∉ blocks y'.all) : DrSt B w wr' g gk y' K' X' := ⟨hk, hc, hgr, h.hg, hx⟩
theorem DrSt.next (h : DrSt B w wr g gk y K X) (hk : KIn w.heap.size wr' gk y' K') (ht : Touch (g :: gk :: blocks y.all) wr wr') (hf : ∀ b ∈ blocks y'.all, b ∈ blocks y.all ∨ wr.heap.size ≤ b) (hc : Cur B wr' g) : DrSt B w wr' g gk y' K' X ∧ Keep X wr wr' := by
  have hs := h.size
  have hs' := ht.size
  refine ⟨⟨hk, hc, ⟨ht.os.trans h.grew.os, ht.tape.trans h.grew.tape, ht.output.trans h.grew.output, by omega, fun i hi hr => ?_⟩, h.hg, fun b hb => ?_⟩, fun k hk' => ?_⟩
  · refine (ht.block i (by omega) fun hm => ?_).trans (h.grew.block i hi hr)
    rcases List.mem_cons.1 hm with rfl | hm
    · exact hr rfl
    · rcases List.mem_cons.1 hm with rfl | hm
      · have := h.gkl; omega
      · have := (h.kin.own.lts i hm).1; omega
  · obtain ⟨h1, h2, h3, h4⟩ := h.ex b hb
    refine ⟨h1, by omega, h3, fun hm => ?_⟩
    rcases hf b hm with hm | hm
    · exact h4 hm
    · omega
  · obtain ⟨h1, h2, h3, h4⟩ := h.ex k hk'
    refine ht.block k h2 fun hm => ?_
    rcases List.mem_cons.1 hm with rfl | hm
    · have := h.hg; omega
    · rcases List.mem_cons.1 hm with rfl | hm
      · exact h3 rfl
      · exact h4 hm
/-- A step of the kernel. -/
theorem DrSt.kstep (h : DrSt B w wr g gk y K X) (hk : KIn w.heap.size wr' gk y' K') (ht : Touch (gk :: blocks y.all) wr wr') (hf : ∀ b ∈ blocks y'.all, b ∈ blocks y.all ∨ wr.heap.size ≤ b) : DrSt B w wr' g gk y' K' X ∧ Keep X wr wr' := by
  refine h.next hk (ht.mono fun b hb => List.mem_cons_of_mem _ hb) hf (h.cur.stays ht.size fun k hk' => ht.block k ?_ fun hm => ?_)
  · have := h.cur.lt; have := h.cur.1; omega
  · have h1 := h.hg; have h2 := h.cur.1; have h3 := h.gkl
    rcases List.mem_cons.1 hm with rfl | hm
    · omega
    · have := (h.kin.own.lts k hm).1; omega
theorem DrSt.below (h : DrSt B w wr g gk y K X) (hb : Below wr.heap.size wr wr') : DrSt B w wr' g gk y K X ∧ Keep X wr wr' :=
  h.kstep (h.kin.below hb) (touch_of_below hb _) fun b hb => .inl hb
/-- A call on the cursor. -/
theorem DrSt.draw (h : DrSt B w wr g gk y K X) (hgr : wr.grownBy wr' (some g)) (hc : Cur B wr' g) : DrSt B w wr' g gk y K X ∧ Keep X wr wr' := by
  have hne := h.gne
  have ht : Touch [g] wr wr' := grown_touch hgr fun b hb => by cases hb; exact List.mem_singleton.2 rfl
  exact h.next (h.kin.touchN ht (fun hm => hne.1 (List.mem_singleton.1 hm).symm) fun b hb hm => hne.2.1 (by rw [← List.mem_singleton.1 hm]; exact hb)) (ht.mono fun b hb => by rw [List.mem_singleton.1 hb]; exact List.mem_cons_self ..) (fun b hb => .inl hb) hc
/-- Some block of those beside the kernel is written, or new ones are made. -/
theorem DrSt.other (h : DrSt B w wr g gk y K X) {S X' : List Nat} (ht : Touch S wr wr') (hS : ∀ b ∈ S, b ∈ X) (hX : ∀ b ∈ X', b ∈ X ∨ (wr.heap.size ≤ b ∧ b < wr'.heap.size)) : DrSt B w wr' g gk y K X' := by
  have hne := h.gne
  have hs := h.size; have hs' := ht.size
  have nS : ∀ b, b ∈ S → w.heap.size ≤ b ∧ b < wr.heap.size ∧ b ≠ gk ∧ b ∉ blocks y.all := fun b hb => h.ex b (hS b hb)
  refine ⟨h.kin.touchN ht (fun hm => (nS _ hm).2.2.1 rfl) fun b hb hm => (nS _ hm).2.2.2 hb, ?_, ⟨ht.os.trans h.grew.os, ht.tape.trans h.grew.tape, ht.output.trans h.grew.output, by omega, fun i hi hr => ?_⟩, h.hg, fun b hb => ?_⟩
  · refine h.cur.stays ht.size fun k hk => ht.block k ?_ fun hm => ?_
    · have := h.cur.lt; have := h.cur.1; omega
    · have h1 := h.hg; have h2 := h.cur.1; have h3 := (nS k hm).1; omega
  · exact (ht.block i (by omega) fun hm => by have := (nS i hm).1; omega).trans (h.grew.block i hi hr)
  · rcases hX b hb with hb | ⟨h1, h2⟩
    · obtain ⟨h1, h2, h3, h4⟩ := h.ex b hb
      exact ⟨h1, by omega, h3, h4⟩
    · exact ⟨by omega, h2, by have := h.gkl; omega, fun hm => by have := (h.kin.own.lts b hm).2; omega⟩
theorem DrSt.sub (h : DrSt B w wr g gk y K X) {X' : List Nat} (hX : ∀ b ∈ X', b ∈ X) : DrSt B w wr g gk y K X' := ⟨h.kin, h.cur, h.grew, h.hg, fun b hb => h.ex b (hX b hb)⟩
end
/-- The machine of a kernel in a box is put anew. -/
theorem KIn.setM {B n : Nat} {w : World} {gk : Nat} {y : KV} {K : Ker} {c u e : Value} {vs : List Value} {M : Mac} (h : KIn B w gk y K) (ho : MOwn n w ⟨⟨c, u, vs⟩, e⟩ M) (hg : gk < n) (hb : ∀ b ∈ blocks [y.r], b < n) (hB : B ≤ n) :
    KIn B (((w.setCell ⟨gk, 0, none⟩ c).setCell ⟨gk, 1, none⟩ u).setCell ⟨gk, 2, none⟩ e) gk ⟨⟨⟨c, u, vs⟩, e⟩, y.r⟩ ⟨M, K.calls, K.refuse⟩ := by
  obtain ⟨xg, c0, c1, c2, c3, c4, f0, f1, f2, f3, f4⟩ := h.box
  have hne : gk ∉ blocks (MV.all ⟨⟨c, u, vs⟩, e⟩) := fun hm => by have := (ho.lts gk hm).1; omega
  have hner : gk ∉ blocks [y.r] := fun hm => h.ne (sub_left [y.r] _ gk hm)
  have ht : Touch [gk] w (((w.setCell ⟨gk, 0, none⟩ c).setCell ⟨gk, 1, none⟩ u).setCell ⟨gk, 2, none⟩ e) := touch_bx (touch_bx (touch_bx (Touch.refl _ _)))
  refine ⟨⟨by go_simp, by go_simp, by go_simp, by go_simp, by go_simp, by go_simp, by go_simp, by go_simp, by go_simp, by go_simp, by go_simp⟩, ⟨?_, ?_, ?_⟩, h.hB, ?_⟩
  · exact (ho.touch ht fun b hb hm => hne (by rw [← List.mem_singleton.1 hm]; exact hb)).mono hB
  · exact Own.touch h.own.ref ht fun b hb hm => hner (by rw [← List.mem_singleton.1 hm]; exact mem_one hb)
  · exact nodup_blocks (l := [y.r]) (nodup_one _) ho.nd fun b hb' hm => by have h1 := hb b hb'; have h2 := (ho.lts b hm).1; omega
  · intro hm
    rw [show (KV.all ⟨⟨⟨c, u, vs⟩, e⟩, y.r⟩) = [y.r] ++ MV.all ⟨⟨c, u, vs⟩, e⟩ from rfl, blocks_append, List.mem_append] at hm
    exact hm.elim hner hne
theorem lensTo_16 {rows : List (List Int)} (h : ∀ (i : Nat) (r : List Int), rows[i]? = some r → r.length = 16) : ∀ k, k ≤ rows.length → lensTo rows k ≤ 16 * k := by
  intro k
  induction k with
  | zero => intro _; simp [lensTo]
  | succ k ih =>
    intro hk
    obtain ⟨r, hr⟩ := getx (xs := rows) (k := k) (by omega)
    have h1 := ih (by omega)
    have h2 := h k r hr
    rw [lensTo, getD_of hr]
    omega
theorem mok_sz {M : Mac} (h : MOk M) : szM M ≤ 1048576 := by
  have h1 : tot M.f.cells ≤ 16 * M.f.cells.length := lensTo_16 (fun i r hr => by
    obtain ⟨u, hu⟩ := getx (xs := M.f.used) (k := i) (by rw [h.u1]; exact getx_lt hr)
    exact (h.row i r u hr hu).1) _ (Nat.le_refl _)
  have h2 := h.n1; have h3 := h.u1; have h4 := h.e1
  unfold szM szF
  omega
theorem mok_szK {K : Ker} (h : MOk K.m) : szK K ≤ 1000 + K.refuse.length := by
  have h1 : tot K.m.f.cells ≤ 16 * K.m.f.cells.length := lensTo_16 (fun i r hr => by
    obtain ⟨u, hu⟩ := getx (xs := K.m.f.used) (k := i) (by rw [h.u1]; exact getx_lt hr)
    exact (h.row i r u hr hu).1) _ (Nat.le_refl _)
  have h2 := h.n1; have h3 := h.u1; have h4 := h.e1
  unfold szK szM szF
  omega
theorem nat_wrap {k : Nat} (h : k ≤ 99999) : wrap64 (k : Int) = k := IntWalk.wrap64_in _ (by omega)
theorem nat_wrapI {k : Nat} (h : k ≤ 99999) : IntKind.i64.wrap (k : Int) = k := IntWalk.i64_in _ (by omega)
theorem tmod_nat {q : Int} {m : Nat} (h0 : 0 ≤ q) (hm : 0 < m) (hm2 : m ≤ 9999) : ∃ i : Nat, q.tmod (m : Int) = (i : Int) ∧ i < m ∧ (i : Int) < (m : Int) ∧ wrap64 (i : Int) = i := by
  rw [Int.tmod_eq_emod_of_nonneg h0]
  have h1 := Int.emod_nonneg q (show (m : Int) ≠ 0 by omega)
  have h2 := Int.emod_lt_of_pos q (show (0 : Int) < (m : Int) by omega)
  generalize q % (m : Int) = r at *
  obtain ⟨i, rfl⟩ := Int.eq_ofNat_of_zero_le h1
  exact ⟨i, rfl, by omega, h2, IntWalk.wrap64_in _ (by omega)⟩
end Go.Proofs.Ytobechjagckdfaa
/-
  New frames, tables, machines, kernels, by the reference.
-/
set_option linter.unusedVariables false
set_option linter.unusedSimpArgs false
namespace Go.Proofs.Ytobechjagckdfaa
open Go.RowKit
theorem one_blkK {v : Value} {g : Nat} (h : g ∈ blocks [v]) : v.ownBlock = some g := by
  obtain ⟨x, hx, e⟩ := mem_blocks.1 h
  cases List.mem_singleton.1 hx
  exact e
theorem pinR {α : Type} {ES E B : Nat} {f : α → List Value} {W w2 : World} {r : Option Nat} {c : Value} {vs : List Value} {rows : List (List α)} (_ : W.grownBy w2 r) (h : OwnRows ES E f B W c vs rows) : OwnRows ES E f B W c vs rows := h
def NewF4 (w : World) (e : Ending) (w' : World) : Prop := ∃ y : FV, e = .returned (.tuple #[y.val, .bool true]) ∧ FOwn w.heap.size w' y ⟨List.replicate 4 (List.replicate 16 (0 : Int)), List.replicate 4 false⟩ ∧ Below w.heap.size w w'
set_option maxRecDepth 20000 in
set_option maxHeartbeats 3200000 in
theorem s_FramesNew (w : World) : Calls Try.prog 80 #[.int .i64 4] w (NewF4 w) := by
  have hbt : between 4 1 32 = true := by decide
  (have hall := all_nil w; go_enter Try.func80, Try.ntmps80)
  go_wp2_with (first | (go_at_call 28; (first | (refine (s_l01In _ _ _ true (by assumption) _).mono ?_) | (refine (s_l01In _ _ _ false (by assumption) _).mono ?_) | (refine (s_l01In _ _ _ _ rfl _).mono ?_)); rintro e w2 ⟨rfl, rfl⟩) | (with_reducible refine wp_region_grew2 (by kernel_rfl) (by kernel_rfl) ?_; intro w2 hb; (first | have hn := nw4 hb hall (by exact zo) | have hn := nw3 hb hall (by exact zo) | have hn := nw2 hb hall (by exact zo) | have hn := nw1 hb hall (by exact zo) | have hn := nw0 hb hall (by exact zo)); obtain ⟨hc, hf, hn, hc0⟩ := hn; replace hall := hn; clear hn; have hz := hb.size; (try simp only [World.size_alloc, World.size_setCell, World.size_drew] at hz); have hx := hall; (try simp only [allLt, and_true] at hx); (try (have hO := HO.out; replace HO := Lib.hid (Own.below hO (w' := w2) (by exact bel)); clear hO)); obtain ⟨w1, rfl⟩ : ∃ x, x = w2 := ⟨_, rfl⟩; (repeat (go_big_quiet_step (first | (go_at_call 28; first | exact calls_same (s_l01In _ _ _ true (by assumption) _) | exact calls_same (s_l01In _ _ _ false (by assumption) _) | exact calls_same (s_l01In _ _ _ _ rfl _))))); refine wpQuiet_nil ?_; intro w2 hw'; have hb := grew_below hw'; clear hw'; (first | have hn := nw4 hb hall (by exact zo) | have hn := nw3 hb hall (by exact zo) | have hn := nw2 hb hall (by exact zo) | have hn := nw1 hb hall (by exact zo) | have hn := nw0 hb hall (by exact zo)); obtain ⟨hc, hf, hn, hc0⟩ := hn; replace hall := hn; clear hn; have hz := hb.size; (try simp only [World.size_alloc, World.size_setCell, World.size_drew] at hz); have hx := hall; (try simp only [allLt, and_true] at hx); (try (have hO := HO.out; replace HO := Lib.hid (Own.below hO (w' := w2) (by exact bel)); clear hO)); obtain ⟨w1, rfl⟩ : ∃ x, x = w2 := ⟨_, rfl⟩))
  go_loopw [5] (fun i wr => ∃ (k : Nat) (co' : Option Addr) (cc' : Nat) (us : List Value) (uo' : Option Addr) (uc' : Nat), k ≤ 4 ∧ i = .int .i64 k ∧ us.length = k ∧ OwnR (w.heap.size + 2) wr (.slice co' k cc') us (List.replicate k (List.replicate 16 (0 : Int))) ∧ OwnB (w.heap.size + 2) wr (.slice uo' k uc') (List.replicate k false) ∧ (blocks (.slice co' k cc' :: us)).Nodup ∧ (∀ g ∈ blocks [.slice uo' k uc'], g ∉ blocks (.slice co' k cc' :: us)) ∧ Below w.heap.size w wr ∧ BoxAt wr (w.heap.size) [.slice none 0 0, .slice none 0 0] ∧ BoxAt wr (w.heap.size + 1) [.slice co' k cc', .slice uo' k uc']) (fun i _ => 4 - (intOf i).toNat)
  case atStart =>
    refine ⟨0, none, 0, [], none, 0, Nat.zero_le _, rfl, rfl, ⟨Own.nil _ _ _ _ _, rfl, fun i v r hv => by simp at hv⟩, Own.nil _ _ _ _ _, nodup_one _, fun g hg => by simp [blocks, Value.ownBlock] at hg, by exact bel, ?_, ?_⟩
    · exact BoxAt.snoc (BoxAt.snoc (BoxAt.nil (by go_simp)) rfl (by go_simp) (by go_simp)) rfl (by go_simp) (by go_simp)
    · exact BoxAt.snoc (BoxAt.snoc (BoxAt.nil (by go_simp)) rfl (by go_simp) (by go_simp)) rfl (by go_simp) (by go_simp)
  case round =>
    obtain ⟨k, co', cc', us, uo', uc', hk, rfl, hul, hown, hou, hnd, hap, hbel, b0, b1⟩ := hrel
    obtain ⟨w1, rfl⟩ : ∃ x, x = wr := ⟨_, rfl⟩
    have HO := Lib.hid hown; have HU := Lib.hid hou; have HD := Lib.hid hnd; have AP := Lib.hid hap; have HB := Lib.hid hbel; have HUL := Lib.hid hul
    have hsz2 := hbel.size
    have k00 := (b0.cells 0 _ rfl).1; have f00 := (b0.cells 0 _ rfl).2; have k01 := (b0.cells 1 _ rfl).1; have f01 := (b0.cells 1 _ rfl).2
    have k10 := (b1.cells 0 _ rfl).1; have f10 := (b1.cells 0 _ rfl).2; have k11 := (b1.cells 1 _ rfl).1; have f11 := (b1.cells 1 _ rfl).2
    have x0 := b0.lt; have x1 := b1.lt
    clear hown hou hnd hap hbel b0 b1
    by_cases hlt : k < 4
    · have hlt' : (k : Int) < 4 := by omega
      have HH : Hid (∀ g', (.slice co' k cc' : Value).ownBlock = some g' → g' < w1.heap.size) := Lib.hid (fun g' hg' => (HO.out.out.lt g' hg').2)
      go_wp2
      go_region_law ((first | ((refine step_append1 elemRow rfl _ _ rfl lenVal (by rfl) (xs := us) (v := .slice co' k cc') (B := w.heap.size + 2) (by exact Own.below HO.out.out (by exact bel)) (by exact zt) (by rfl) (.slice (some ⟨w1.heap.size, 0, none⟩) 16 16) (fun u hu => (by simp [fVal] at hu; subst hu; rfl)) (by intro j u hj; match j, hj with | 0, hj => (simp [fVal] at hj; subst hj; go_simp) | j + 1, hj => simp [fVal] at hj) (by simp only [maxLen]; omega) ?_; intro v3 w2 hown3 hgr3 hat3 hb; obtain ⟨v3o, v3c, hv3, -, -⟩ := hown3.shape; rw [List.length_append, List.length_singleton, HUL.out] at hv3; subst hv3; (have HN : Hid (OwnI (w1.heap.size) w2 (.slice (some ⟨w1.heap.size, 0, none⟩) 16 16) (List.replicate 16 (0 : Int))) := Lib.hid (Own.grownNe (by first | exact Own.below (Own.alloc (OwnI.zeros _ (by exact zt)) _) (Below.drew (Below.refl _ _)) | exact Own.alloc (OwnI.zeros _ (by exact zt)) _ | exact Own.alloc (Own.below (OwnI.zeros _ (by exact zt)) (Below.drew (Below.refl _ _))) _) hgr3 (fun g' hg' e => by have h1 : w1.heap.size = g' := Option.some.inj hg'; have h2 := HH.out g' e.symm; omega))); (have HOR := Lib.hid (pinR hgr3 (OwnRows.below HO.out (by exact bel)))); (have HU2 := Lib.hid (Own.touchs (Own.below HU.out (by exact bel)) (grown_touch1 hgr3) (fun g hg hm => AP.out g hg (blocks_sub (fun v hv => by cases List.mem_singleton.1 hv; exact List.mem_cons_self ..) g hm)))); have H3 := Lib.hid hown3; have HG3 := Lib.hid hgr3; have HA3 := Lib.hid hat3; have HB3 := Lib.hid hb; clear hown3 hgr3 hat3; obtain ⟨kwd_P_0, fwd_P_0, kwd_P_1, fwd_P_1⟩ := kf2 hb (w.heap.size) (.slice none 0 0) (.slice none 0 0); obtain ⟨kwd_O_0, fwd_O_0, kwd_O_1, fwd_O_1⟩ := kf2 hb (w.heap.size + 1) (.slice co' k cc') (.slice uo' k uc'); have xwd_P : w.heap.size < w2.heap.size := xc hb; have xwd_O : w.heap.size + 1 < w2.heap.size := xc hb; have hzwd := hb.size; (try simp only [World.size_alloc, World.size_setCell, World.size_drew] at hzwd); obtain ⟨wd, rfl⟩ : ∃ x, x = w2 := ⟨_, rfl⟩))))
      all_goals
        (have HAPR : Hid (∀ g ∈ blocks [(.slice uo' k uc' : Value)], g ∉ blocks ((.slice v3o (k + 1) v3c) :: (us ++ [(.slice (some ⟨w1.heap.size, 0, none⟩) 16 16)]))) := Lib.hid (fun g hg hm => by
          have hlt1 := (Own.lts HU.out g hg).2
          obtain ⟨v, hv, hvb⟩ := mem_blocks.1 hm
          rcases List.mem_cons.1 hv with rfl | hv
          · rcases HA3.out with e | e
            · exact AP.out g hg (mem_blocks.2 ⟨_, List.mem_cons_self .., e.symm.trans hvb⟩)
            · have e2 := Option.some.inj (e.symm.trans hvb)
              (try simp only [World.size_alloc, World.size_drew] at e2)
              omega
          · rcases List.mem_append.1 hv with hv | hv
            · exact AP.out g hg (mem_blocks.2 ⟨v, List.mem_cons_of_mem _ hv, hvb⟩)
            · cases List.mem_singleton.1 hv
              have e2 : w1.heap.size = g := Option.some.inj hvb
              omega))
        go_wp2_with (first | (at_builtin; refine wpList_append1 elemBool rfl _ _ rfl lenBool rfl (Own.alloc (Own.offb HU2.out (by omega) _) _) (by exact zt) rfl false (fun u hu => (by simp [fBool] at hu; subst hu; rfl)) (by intro j u hj; match j, hj with | 0, hj => (simp [fBool] at hj; subst hj; go_simp) | j + 1, hj => simp [fBool] at hj) (by simp only [List.length_replicate, maxLen]; omega) ?_; intro v4 w4 hown4 hgr4 hat4 hb4; obtain ⟨v4o, v4c, hv4, -, -⟩ := hown4.shape; rw [List.length_append, List.length_singleton, List.length_replicate] at hv4; subst hv4; have H4 := Lib.hid hown4; have HG4 := Lib.hid hgr4; have HA4 := Lib.hid hat4; have HB4 := Lib.hid hb4; (have hz4 := hb4.size); clear hown4 hgr4 hat4; (have hb := hb4); (obtain ⟨ke0, fe0⟩ : w4.cell? ⟨w.heap.size + 1, 0, none⟩ = some (.slice v3o (k + 1) v3c) ∧ w4.frozen? ⟨w.heap.size + 1, 0, none⟩ = false := ⟨kc hb (by exact zt) (by go_simp), fc hb (by exact zt) (by go_simp)⟩); (obtain ⟨ke1, fe1⟩ : w4.cell? ⟨w.heap.size + 1, 1, none⟩ = some (.slice uo' k uc') ∧ w4.frozen? ⟨w.heap.size + 1, 1, none⟩ = false := ⟨kc hb (by exact zt) (by go_simp), fc hb (by exact zt) (by go_simp)⟩); (obtain ⟨kp0, fp0, kp1, fp1⟩ : w4.cell? ⟨w.heap.size, 0, none⟩ = some (.slice none 0 0) ∧ w4.frozen? ⟨w.heap.size, 0, none⟩ = false ∧ w4.cell? ⟨w.heap.size, 1, none⟩ = some (.slice none 0 0) ∧ w4.frozen? ⟨w.heap.size, 1, none⟩ = false := ⟨kc hb (by exact zt) (by go_simp), fc hb (by exact zt) (by go_simp), kc hb (by exact zt) (by go_simp), fc hb (by exact zt) (by go_simp)⟩); (try simp only [World.size_alloc, World.size_setCell, World.size_drew] at hz4); clear hb hb4))
        have hB := HB.out; have hB3 := HB3.out; have hB4 := HB4.out
        have HBF : Hid (Below w.heap.size w w4) := Lib.hid (by exact bel)
        have ND := nodup_grow HD.out (nv := (.slice (some ⟨w1.heap.size, 0, none⟩) 16 16)) (fun g' hg' hm' => by have h1 : w1.heap.size = g' := Option.some.inj hg'; have h2 := (HO.out.lt g' hm').2; omega) HA3.out (fun g' hg' => by
          rw [blocks_append, List.mem_append] at hg'
          (try simp only [World.size_alloc, World.size_setCell, World.size_drew])
          rcases hg' with h5 | h5
          · have h2 := (HO.out.lt g' (blocks_sub (fun v hv => List.mem_cons_of_mem _ hv) g' h5)).2
            omega
          · have h2 := (Own.lts HN.out g' h5)
            have h3 : w1.heap.size = g' := Option.some.inj (one_blkK h5)
            omega)
        have S := OwnRows.snoc (E := 3) (f := fInt) (r := List.replicate 16 (0 : Int)) HOR.out HD.out H3.out HG3.out (Own.mono HN.out (by omega))
        rw [← List.replicate_succ'] at S
        have S2 := OwnRows.touch (OwnRows.below (OwnRows.offb S (b := w.heap.size + 1) (o := 0) (by omega) (.slice v3o (k + 1) v3c)) ((Below.refl _ _).alloc (Nat.le_refl _) (.cells #[.bool false] 4))) (grown_touch1 HG4.out) (fun g hg hm => HAPR.out g hm hg)
        go_roundw
        case rel =>
          refine ⟨k + 1, v3o, v3c, us ++ [(.slice (some ⟨w1.heap.size, 0, none⟩) 16 16)], v4o, v4c, by omega, by go_num, by simp [HUL.out], OwnRows.offb S2 (by omega) _, Own.offb (by rw [List.replicate_succ']; exact H4.out) (by omega) _, ND, ?_, by (have hBF := HBF.out; exact bel), ?_, ?_⟩
          · intro g hg hm
            rcases HA4.out with e | e
            · exact HAPR.out g (mem_one (e.symm.trans (one_blkK hg))) hm
            · have e2 := Option.some.inj (e.symm.trans (one_blkK hg))
              have h3 := (OwnRows.lt S g hm).2
              (try simp only [World.size_alloc, World.size_setCell, World.size_drew] at e2 h3)
              omega
          · exact BoxAt.snoc (BoxAt.snoc (BoxAt.nil (by simp only [World.size_setCell]; omega)) rfl (by go_simp) (by go_simp)) rfl (by go_simp) (by go_simp)
          · exact BoxAt.snoc (BoxAt.snoc (BoxAt.nil (by simp only [World.size_setCell]; omega)) rfl (by go_simp) (by go_simp)) rfl (by go_simp) (by go_simp)
        case measure => simp [intOf]; omega
    · have hlt' : ¬ (k : Int) < 4 := by omega
      obtain rfl : k = 4 := by omega
      go_wp2
      refine bodyPost_ret (v := .tuple #[.agg #[.slice co' 4 cc', .slice uo' 4 uc'], .bool true]) (by simp [results, Try.results80, go_sem, k00, k01, f00, f01, k10, k11, f10, f11]) rfl ?_
      exact ⟨⟨_, _, us⟩, rfl, ⟨(OwnRows.offb (OwnRows.offb HO.out (by omega) _) (by omega) _).mono (by omega), (Own.offb (Own.offb HU.out (by omega) _) (by omega) _).mono (by omega), nodup_blocks (l := [_]) (nodup_one _) HD.out (fun g hg hm => AP.out g hg hm)⟩, by (have hB := HB.out; exact bel)⟩

end Go.Proofs.Ytobechjagckdfaa
/-
  New tables, machines, kernels, by the reference.
-/
set_option linter.unusedVariables false
set_option linter.unusedSimpArgs false
namespace Go.Proofs.Ytobechjagckdfaa
open Go.RowKit
def NewT4 (w : World) (e : Ending) (w' : World) : Prop := ∃ v : Value, e = .returned (.tuple #[.agg #[v], .bool true]) ∧ OwnEnt w.heap.size w' v (List.replicate 4 ⟨0, 0⟩) ∧ Below w.heap.size w w'
theorem s_TableNew (w : World) : Calls Try.prog 81 #[.int .i64 4] w (NewT4 w) := by
  have hbt : between 4 1 32 = true := by decide
  (have hall := all_nil w; go_enter Try.func81, Try.ntmps81)
  go_wp2_with (first | (at_make; (refine make1 elemEnt rfl _ _ rfl zeroEnt .i64 .i64 4 rfl rfl (by omega) (by unfold maxLen; omega) ?_); intro v2 w2 hv hown hb; subst hv; (simp only [World.size_alloc] at hown); have OE := Lib.hid hown; have HB := Lib.hid hb; clear hown; have kwa_0_0 : w2.cell? ⟨w.heap.size, 0, none⟩ = some (.slice none 0 0) := kc hb; have fwa_0_0 : w2.frozen? ⟨w.heap.size, 0, none⟩ = false := fc hb; have xwa_0 : w.heap.size < w2.heap.size := xc hb; have hzwa := hb.size; (try simp only [World.size_alloc, World.size_setCell, World.size_drew] at hzwa); obtain ⟨wa, rfl⟩ : ∃ x, x = w2 := ⟨_, rfl⟩) | (go_at_call 28; (first | (refine (s_l01In _ _ _ true (by assumption) _).mono ?_) | (refine (s_l01In _ _ _ false (by assumption) _).mono ?_) | (refine (s_l01In _ _ _ _ rfl _).mono ?_)); rintro e w2 ⟨rfl, rfl⟩) | (with_reducible refine wp_region_grew2 (by kernel_rfl) (by kernel_rfl) ?_; intro w2 hb; (first | have hn := nw4 hb hall (by exact zo) | have hn := nw3 hb hall (by exact zo) | have hn := nw2 hb hall (by exact zo) | have hn := nw1 hb hall (by exact zo) | have hn := nw0 hb hall (by exact zo)); obtain ⟨hc, hf, hn, hc0⟩ := hn; replace hall := hn; clear hn; have hz := hb.size; (try simp only [World.size_alloc, World.size_setCell, World.size_drew] at hz); have hx := hall; (try simp only [allLt, and_true] at hx); obtain ⟨w1, rfl⟩ : ∃ x, x = w2 := ⟨_, rfl⟩; (repeat (go_big_quiet_step (first | (go_at_call 28; first | exact calls_same (s_l01In _ _ _ true (by assumption) _) | exact calls_same (s_l01In _ _ _ false (by assumption) _) | exact calls_same (s_l01In _ _ _ _ rfl _))))); refine wpQuiet_nil ?_; intro w2 hw'; have hb := grew_below hw'; clear hw'; (first | have hn := nw4 hb hall (by exact zo) | have hn := nw3 hb hall (by exact zo) | have hn := nw2 hb hall (by exact zo) | have hn := nw1 hb hall (by exact zo) | have hn := nw0 hb hall (by exact zo)); obtain ⟨hc, hf, hn, hc0⟩ := hn; replace hall := hn; clear hn; have hz := hb.size; (try simp only [World.size_alloc, World.size_setCell, World.size_drew] at hz); have hx := hall; (try simp only [allLt, and_true] at hx); obtain ⟨w1, rfl⟩ : ∃ x, x = w2 := ⟨_, rfl⟩))
  skip
  refine bodyPost_ret (v := .tuple #[.agg #[.slice (some ⟨w.heap.size + 1, 0, none⟩) 4 4], .bool true]) (by simp [results, Try.results81, go_sem, kwa_0_0, fwa_0_0, xwa_0]) rfl ?_
  exact ⟨_, rfl, by (have hm := Own.mono (B' := w.heap.size + 1) (OE.out) (by exact zt); refine Own.mono (B := w.heap.size + 1) ?_ (by exact zt); (repeat (first | with_reducible exact hm | (with_reducible refine Own.offb ?_ (by omega) _) | (with_reducible refine Own.below ?_ ((Below.refl _ _).alloc (Nat.le_refl _) _)) | (with_reducible refine Own.below ?_ (Below.drew (Below.refl _ _))) | (refine Own.below ?_ (by with_reducible assumption))))), by (have hB := HB.out; exact bel)⟩

def NewM4 (w : World) (e : Ending) (w' : World) : Prop := ∃ y : MV, e = .returned (.tuple #[y.val, .bool true]) ∧ MOwn w.heap.size w' y (newK 4 4 []).m ∧ Below w.heap.size w w'
set_option maxRecDepth 20000 in
theorem s_MachineNew (w : World) : Calls Try.prog 68 #[.int .i64 4, .int .i64 4] w (NewM4 w) := by
  (have hall := all_nil w; go_enter Try.func68, Try.ntmps68)
  go_wp2_with (first | (go_at_call 80; (refine (s_FramesNew _).mono ?_; rintro e w2 ⟨y, rfl, hyo, hb⟩; (obtain ⟨yco, ycc, yuo, yuc, yvs, rfl⟩ := FOwn.shapes hyo); (have OF : Hid (FOwn (w.heap.size + 1) w2 ⟨.slice yco yvs.length ycc, .slice yuo 4 yuc, yvs⟩ (newK 4 4 []).m.f) := Lib.hid (by (try simp only [World.size_alloc] at hyo); exact hyo)); have HB1 := Lib.hid hb; obtain ⟨kwa_0_0, fwa_0_0, kwa_0_1, fwa_0_1, kwa_0_2, fwa_0_2⟩ := kf3 hb (w.heap.size) (.slice none 0 0) (.slice none 0 0) (.slice none 0 0); have xwa_0 : w.heap.size < w2.heap.size := xc hb; have hzwa := hb.size; (try simp only [World.size_alloc, World.size_setCell, World.size_drew] at hzwa); clear hyo; simp only [FV.val, List.length_replicate]; obtain ⟨wa, rfl⟩ : ∃ x, x = w2 := ⟨_, rfl⟩)) | (go_at_call 81; (refine (s_TableNew _).mono ?_; rintro e w2 ⟨v9, rfl, hvo, hb⟩; (obtain ⟨vo, vc, rfl, -, -⟩ := hvo.shape); (have OT : Hid (OwnEnt (w.heap.size + 1) w2 (.slice vo 4 vc) (newK 4 4 []).m.ents) := Lib.hid (Own.mono hvo (by (try simp only [World.size_alloc]); omega))); (have LT : Hid (∀ g ∈ blocks [(.slice vo 4 vc : Value)], wa.heap.size ≤ g) := Lib.hid (fun g hg => by have h1 := (Own.lts hvo g hg).1; (try simp only [World.size_alloc] at h1); omega)); have HB2 := Lib.hid hb; obtain ⟨kwb_0_0, fwb_0_0, kwb_0_1, fwb_0_1, kwb_0_2, fwb_0_2⟩ := kf3 hb (w.heap.size) (.slice none 0 0) (.slice none 0 0) (.slice none 0 0); obtain ⟨kwb_F_0, kwb_F_1⟩ := kp2 hb (wa.heap.size) (.slice yco yvs.length ycc) (.slice yuo 4 yuc); have xwb_0 : w.heap.size < w2.heap.size := xc hb; have xwb_F : wa.heap.size < w2.heap.size := xc hb; have hzwb := hb.size; (try simp only [World.size_alloc, World.size_setCell, World.size_drew] at hzwb); clear hvo; (try simp only [List.length_replicate]); obtain ⟨wb, rfl⟩ : ∃ x, x = w2 := ⟨_, rfl⟩)) | (with_reducible refine wp_region_grew2 (by kernel_rfl) (by kernel_rfl) ?_; intro w2 hb; (first | have hn := nw4 hb hall (by exact zo) | have hn := nw3 hb hall (by exact zo) | have hn := nw2 hb hall (by exact zo) | have hn := nw1 hb hall (by exact zo) | have hn := nw0 hb hall (by exact zo)); obtain ⟨hc, hf, hn, hc0⟩ := hn; replace hall := hn; clear hn; have hz := hb.size; (try simp only [World.size_alloc, World.size_setCell, World.size_drew] at hz); have hx := hall; (try simp only [allLt, and_true] at hx); obtain ⟨w1, rfl⟩ : ∃ x, x = w2 := ⟨_, rfl⟩; (repeat (go_big_quiet_step (fail))); refine wpQuiet_nil ?_; intro w2 hw'; have hb := grew_below hw'; clear hw'; (first | have hn := nw4 hb hall (by exact zo) | have hn := nw3 hb hall (by exact zo) | have hn := nw2 hb hall (by exact zo) | have hn := nw1 hb hall (by exact zo) | have hn := nw0 hb hall (by exact zo)); obtain ⟨hc, hf, hn, hc0⟩ := hn; replace hall := hn; clear hn; have hz := hb.size; (try simp only [World.size_alloc, World.size_setCell, World.size_drew] at hz); have hx := hall; (try simp only [allLt, and_true] at hx); obtain ⟨w1, rfl⟩ : ∃ x, x = w2 := ⟨_, rfl⟩))
  refine bodyPost_ret (v := .tuple #[.agg #[.slice yco yvs.length ycc, .slice yuo 4 yuc, .slice vo 4 vc], .bool true]) (by simp [results, Try.results68, go_sem, kwb_0_0, fwb_0_0, kwb_0_1, fwb_0_1, kwb_0_2, fwb_0_2, xwb_0, kwb_F_0, kwb_F_1]) rfl ?_
  have hB1 := HB1.out; have hB2 := HB2.out
  refine ⟨⟨⟨_, _, yvs⟩, _⟩, rfl, ⟨by (have hm := FOwn.mono (B' := w.heap.size + 1) (OF.out) (by exact zt); refine FOwn.mono (B := w.heap.size + 1) ?_ (by exact zt); (repeat (first | with_reducible exact hm | (with_reducible refine FOwn.offb ?_ (by omega) _) | (with_reducible refine FOwn.below ?_ ((Below.refl _ _).alloc (Nat.le_refl _) _)) | (with_reducible refine FOwn.below ?_ (Below.drew (Below.refl _ _))) | (refine FOwn.below ?_ (by with_reducible assumption))))), by (have hm := Own.mono (B' := w.heap.size + 1) (OT.out) (by exact zt); refine Own.mono (B := w.heap.size + 1) ?_ (by exact zt); (repeat (first | with_reducible exact hm | (with_reducible refine Own.offb ?_ (by omega) _) | (with_reducible refine Own.below ?_ ((Below.refl _ _).alloc (Nat.le_refl _) _)) | (with_reducible refine Own.below ?_ (Below.drew (Below.refl _ _))) | (refine Own.below ?_ (by with_reducible assumption))))), ?_⟩, by exact bel⟩
  exact nodup_blocks (l := [_]) (nodup_one _) OF.out.nd (fun g hg hm => by have h1 := LT.out g hg; have h2 := (FOwn.lts OF.out g hm).2; omega)

end Go.Proofs.Ytobechjagckdfaa
