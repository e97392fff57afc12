/-
  Texts put together: JobLaw.
-/
import Derived.Test.YtkkebpcclklmcaaGB31
import Derived.Test.YtkkebpcclklmcaaGB25
/-
  What a job makes of a kernel with two mapped pages, step by step: a plain law.
-/
set_option linter.unusedVariables false
set_option linter.unusedSimpArgs false
namespace Go.Proofs.Ytkkebpcclklmcaa
/-! Rows. -/
theorem copyRow_get (src : List Int) : ∀ (cs dst : List Int) (j : Nat), (∀ c ∈ cs, 0 ≤ c) → j < dst.length → (copyRow src dst cs).getD j 0 = if (j : Int) ∈ cs then src.getD j 0 else dst.getD j 0
  | [], dst, j, _, _ => by simp [copyRow]
  | c :: cs, dst, j, hc, hj => by
    have e : copyRow src dst (c :: cs) = copyRow src (dst.set c.toNat (src.getD c.toNat 0)) cs := rfl
    rw [e, copyRow_get src cs _ j (fun x hx => hc x (List.mem_cons_of_mem _ hx)) (by rw [List.length_set]; exact hj)]
    have h0 := hc c (List.mem_cons_self ..)
    by_cases h1 : (j : Int) ∈ cs
    · rw [if_pos h1, if_pos (List.mem_cons_of_mem _ h1)]
    · rw [if_neg h1]
      by_cases h2 : (j : Int) = c
      · rw [if_pos (by rw [h2]; exact List.mem_cons_self ..)]
        have : c.toNat = j := by omega
        rw [this, List.getD_eq_getElem?_getD, List.getElem?_set_self hj]; rfl
      · rw [if_neg (by rw [List.mem_cons]; exact fun h => h.elim h2 h1)]
        rw [List.getD_eq_getElem?_getD, List.getElem?_set_ne (by omega), ← List.getD_eq_getElem?_getD]
theorem list_ext0 {a b : List Int} (hl : a.length = b.length) (h : ∀ j, j < a.length → a.getD j 0 = b.getD j 0) : a = b := by
  apply List.ext_getElem hl
  intro j h1 h2
  have := h j h1
  rwa [getD_of (List.getElem?_eq_getElem h1), getD_of (List.getElem?_eq_getElem h2)] at this
/-- Cells of a plan: from 0 to 15, no two alike. -/
structure CsOk (cs : List Int) : Prop where
  rng : ∀ c ∈ cs, 0 ≤ c ∧ c ≤ 15
  pw : cs.Pairwise (· < ·)
theorem CsOk.nmem_take {cs : List Int} (h : CsOk cs) {n : Nat} {c : Int} (hc : cs[n]? = some c) : c ∉ cs.take n := by
  intro hm
  obtain ⟨i, hi⟩ := List.getElem?_of_mem hm
  rw [List.getElem?_take] at hi
  split at hi
  · rename_i hlt
    have h1 := getx_lt hi; have h2 := getx_lt hc
    have := List.pairwise_iff_getElem.1 h.pw i n h1 h2 hlt
    rw [List.getElem?_eq_getElem h1] at hi
    rw [List.getElem?_eq_getElem h2] at hc
    have e1 := Option.some.inj hi; have e2 := Option.some.inj hc
    omega
  · cases hi
/-- A cell that has been copied is set back. -/
theorem copyRow_back {src dst cs : List Int} (h : CsOk cs) {n : Nat} {c : Int} (hc : cs[n]? = some c) (hz : dst.getD c.toNat 0 = 0) : (copyRow src dst (cs.take (n + 1))).set c.toNat 0 = copyRow src dst (cs.take n) := by
  have h0 : ∀ x ∈ cs.take n, 0 ≤ x := fun x hx => (h.rng x (List.mem_of_mem_take hx)).1
  have hc0 := (h.rng c (List.mem_of_getElem? hc)).1
  rw [copyRow_snoc hc, List.set_set]
  refine list_ext0 (by rw [List.length_set]) fun j hj => ?_
  rw [List.length_set, copyRow_len] at hj
  by_cases e : c.toNat = j
  · subst e
    rw [List.getD_eq_getElem?_getD, List.getElem?_set_self (by rw [copyRow_len]; exact hj), Option.getD_some, copyRow_get src _ _ _ h0 hj, if_neg, hz]
    rw [Int.toNat_of_nonneg hc0]
    exact h.nmem_take hc
  · rw [List.getD_eq_getElem?_getD, List.getElem?_set_ne e, ← List.getD_eq_getElem?_getD]
/-! The base: a kernel with two mapped pages whose live cells do not overlap. -/
structure PairB (K : Ker) (kp mv fa fb : Nat) (ra rb cs : List Int) : Prop where
  ok : MOk K.m
  ref : ∀ x ∈ K.refuse, 0 ≤ x
  rl : K.refuse.length ≤ 40
  ek : K.m.ents[kp]? = some ⟨2, fa⟩
  em : K.m.ents[mv]? = some ⟨2, fb⟩
  nf : fa ≠ fb
  onA : ∀ (i : Nat) (e : Ent), K.m.ents[i]? = some e → e.m ≠ 0 → e.f = fa → i = kp
  onB : ∀ (i : Nat) (e : Ent), K.m.ents[i]? = some e → e.m ≠ 0 → e.f = fb → i = mv
  ha : K.m.f.cells[fa]? = some ra
  hb : K.m.f.cells[fb]? = some rb
  za : ∀ c ∈ cs, ra.getD c.toNat 0 = 0
  zb : ∀ j : Nat, (j : Int) ∉ cs → rb.getD j 0 = 0
  cok : CsOk cs
  plan : planOk kp mv cs = true
section
variable {K : Ker} {kp mv fa fb : Nat} {ra rb cs : List Int}
theorem PairB.np (h : PairB K kp mv fa fb ra rb cs) : kp ≠ mv := by
  intro e
  have h1 := h.ek; have h2 := h.em
  rw [e, h2] at h1
  have := h.nf
  simp at h1; omega
theorem PairB.fa_lt (h : PairB K kp mv fa fb ra rb cs) : fa < K.m.f.cells.length := getx_lt h.ha
theorem PairB.fb_lt (h : PairB K kp mv fa fb ra rb cs) : fb < K.m.f.cells.length := getx_lt h.hb
theorem PairB.ua (h : PairB K kp mv fa fb ra rb cs) : K.m.f.used[fa]? = some true := by
  obtain ⟨u, hu⟩ := getx (xs := K.m.f.used) (k := fa) (by rw [h.ok.u1]; exact h.fa_lt)
  rw [hu, (h.ok.use fa u hu).2 ⟨kp, _, h.ek, by simp, rfl⟩]
theorem PairB.ub (h : PairB K kp mv fa fb ra rb cs) : K.m.f.used[fb]? = some true := by
  obtain ⟨u, hu⟩ := getx (xs := K.m.f.used) (k := fb) (by rw [h.ok.u1]; exact h.fb_lt)
  rw [hu, (h.ok.use fb u hu).2 ⟨mv, _, h.em, by simp, rfl⟩]
theorem PairB.la (h : PairB K kp mv fa fb ra rb cs) : ra.length = 16 := (h.ok.row fa ra true h.ha h.ua).1
theorem PairB.lb (h : PairB K kp mv fa fb ra rb cs) : rb.length = 16 := (h.ok.row fb rb true h.hb h.ub).1
def mid (ph : Int) : Bool := ph == 1 || ph == 2 || ph == 3
/-- The kernel behind some steps: the base, n cells copied, or all of them and the pages on one frame. -/
def view (K : Ker) (mv fa fb : Nat) (ra rb cs : List Int) (ph : Int) (n : Nat) (calls : Int) : Ker :=
  if ph = 4 then ⟨⟨⟨(K.m.f.cells.set fa (copyRow rb ra cs)).set fb (List.replicate 16 0), K.m.f.used.set fb false⟩, K.m.ents.set mv ⟨2, fa⟩⟩, calls, K.refuse⟩
  else ⟨⟨⟨K.m.f.cells.set fa (copyRow rb ra (cs.take n)), K.m.f.used⟩, K.m.ents.set mv ⟨if mid ph then 1 else 2, fb⟩⟩, calls, K.refuse⟩
theorem get_copy {src dst : List Int} {cs : List Int} (hl : src.length = dst.length) {j : Nat} {x : Int} (h0 : ∀ c ∈ cs, 0 ≤ c) (h : (copyRow src dst cs)[j]? = some x) : src[j]? = some x ∨ dst[j]? = some x := by
  have hj := getx_lt h
  rw [copyRow_len] at hj
  have := copyRow_get src cs dst j h0 hj
  rw [getD_of h] at this
  split at this
  · left
    rw [this, List.getD_eq_getElem?_getD, List.getElem?_eq_getElem (by omega)]; rfl
  · right
    rw [this, List.getD_eq_getElem?_getD, List.getElem?_eq_getElem hj]; rfl
theorem row_copy (h : PairB K kp mv fa fb ra rb cs) (n : Nat) : (copyRow rb ra (cs.take n)).length = 16 ∧ ∀ (j : Nat) (x : Int), (copyRow rb ra (cs.take n))[j]? = some x → 0 ≤ x ∧ x ≤ 999 := by
  refine ⟨by rw [copyRow_len]; exact h.la, fun j x hx => ?_⟩
  rcases get_copy (by rw [h.la, h.lb]) (fun c hc => (h.cok.rng c (List.mem_of_mem_take hc)).1) hx with h1 | h1
  · have := (h.ok.row fb rb true h.hb h.ub).2 j x h1; omega
  · have := (h.ok.row fa ra true h.ha h.ua).2 j x h1; omega
/-- The frames with one row copied are in order. -/
theorem view_ok (h : PairB K kp mv fa fb ra rb cs) (ph : Int) (n : Nat) (calls : Int) : MOk (view K mv fa fb ra rb cs ph n calls).m := by
  have R := row_copy h
  have hkl := getx_lt h.ek; have hml := getx_lt h.em
  have np := h.np
  unfold view
  split
  · refine ⟨by simpa using h.ok.n1, by simpa using h.ok.u1, ?_, by simpa using h.ok.e1, ?_, ?_⟩
    · intro i r u hr hu
      dsimp only at hr hu
      rcases getElem?_set_cases hr with ⟨rfl, rfl⟩ | ⟨hi, hr⟩
      · refine ⟨by simp, fun j x hx => ?_⟩
        rw [List.getElem?_replicate] at hx
        split at hx
        · cases hx; exact ⟨by omega, by omega, fun _ => rfl⟩
        · cases hx
      · rcases getElem?_set_cases hu with ⟨rfl, _⟩ | ⟨_, hu⟩
        · exact absurd rfl hi
        · rcases getElem?_set_cases hr with ⟨rfl, rfl⟩ | ⟨_, hr⟩
          · have R16 := R cs.length
            rw [List.take_length] at R16
            refine ⟨R16.1, fun j x hx => ⟨(R16.2 j x hx).1, (R16.2 j x hx).2, fun hf => ?_⟩⟩
            rw [h.ua] at hu; cases hu; cases hf
          · exact h.ok.row i r u hr hu
    · intro i e he
      dsimp only at he ⊢
      rw [List.length_set]
      rcases getElem?_set_cases he with ⟨rfl, rfl⟩ | ⟨_, he⟩
      · have := h.fa_lt; rw [← h.ok.u1] at this
        exact ⟨by dsimp only; omega, by dsimp only; omega, by dsimp only; omega, fun h => by simp at h, fun _ => by dsimp only; omega⟩
      · exact h.ok.ent i e he
    · intro i u hu
      dsimp only at hu ⊢
      rcases getElem?_set_cases hu with ⟨rfl, rfl⟩ | ⟨hi, hu⟩
      · refine ⟨fun hf => (by cases hf), fun ⟨k, e, hk, hm, hf⟩ => ?_⟩
        rcases getElem?_set_cases hk with ⟨rfl, rfl⟩ | ⟨hne, hk⟩
        · have := h.nf; dsimp only at hf; omega
        · exact absurd (h.onB k e hk hm hf) hne
      · rw [h.ok.use i u hu]
        constructor
        · rintro ⟨k, e, hk, hm, hf⟩
          have hkm : k ≠ mv := fun e2 => by
            subst e2; rw [h.em] at hk; cases hk; dsimp only at hf; omega
          exact ⟨k, e, by rw [List.getElem?_set_ne (fun x => hkm x.symm)]; exact hk, hm, hf⟩
        · rintro ⟨k, e, hk, hm, hf⟩
          rcases getElem?_set_cases hk with ⟨rfl, rfl⟩ | ⟨_, hk⟩
          · dsimp only at hf
            exact ⟨kp, _, h.ek, by simp, hf⟩
          · exact ⟨k, e, hk, hm, hf⟩
  · refine ⟨by simpa using h.ok.n1, by simpa using h.ok.u1, ?_, by simpa using h.ok.e1, ?_, ?_⟩
    · intro i r u hr hu
      dsimp only at hr hu
      rcases getElem?_set_cases hr with ⟨rfl, rfl⟩ | ⟨_, hr⟩
      · have R16 := R n
        refine ⟨R16.1, fun j x hx => ⟨(R16.2 j x hx).1, (R16.2 j x hx).2, fun hf => ?_⟩⟩
        rw [h.ua] at hu; cases hu; cases hf
      · exact h.ok.row i r u hr hu
    · intro i e he
      dsimp only at he ⊢
      rcases getElem?_set_cases he with ⟨rfl, rfl⟩ | ⟨_, he⟩
      · have := h.fb_lt; rw [← h.ok.u1] at this
        refine ⟨by dsimp only; split <;> omega, by dsimp only; split <;> omega, by dsimp only; omega, fun h => ?_, fun _ => by dsimp only; omega⟩
        dsimp only at h; split at h <;> omega
      · exact h.ok.ent i e he
    · intro i u hu
      dsimp only at hu ⊢
      rw [h.ok.use i u hu]
      have hpos : (if mid ph = true then (1 : Int) else 2) ≠ 0 := by split <;> omega
      constructor
      · rintro ⟨k, e, hk, hm, hf⟩
        by_cases hkm : k = mv
        · subst hkm
          rw [h.em] at hk; cases hk
          exact ⟨k, ⟨if mid ph = true then 1 else 2, fb⟩, by rw [List.getElem?_set_self hml], hpos, hf⟩
        · exact ⟨k, e, by rw [List.getElem?_set_ne (fun x => hkm x.symm)]; exact hk, hm, hf⟩
      · rintro ⟨k, e, hk, hm, hf⟩
        rcases getElem?_set_cases hk with ⟨rfl, rfl⟩ | ⟨_, hk⟩
        · exact ⟨k, _, h.em, by simp, hf⟩
        · exact ⟨k, e, hk, hm, hf⟩
theorem view_calls (ph : Int) (n : Nat) (calls : Int) : (view K mv fa fb ra rb cs ph n calls).calls = calls := by unfold view; split <;> rfl
theorem view_refuse (ph : Int) (n : Nat) (calls : Int) : (view K mv fa fb ra rb cs ph n calls).refuse = K.refuse := by unfold view; split <;> rfl
theorem view_kok (h : PairB K kp mv fa fb ra rb cs) (ph : Int) (n : Nat) (calls : Int) (hc : 0 ≤ calls ∧ calls ≤ 100000) : kernelOk (view K mv fa fb ra rb cs ph n calls) = true := by
  rw [kernelOk_iff, view_calls, view_refuse]
  exact ⟨h.ref, hc, h.rl, view_ok h ph n calls⟩
theorem view_can (h : PairB K kp mv fa fb ra rb cs) (ph : Int) (n : Nat) (calls : Int) (hc : 0 ≤ calls ∧ calls < 100000) : canCall (view K mv fa fb ra rb cs ph n calls) = true := by
  rw [canCall_iff, view_calls]
  exact ⟨view_kok h ph n calls (by omega), by omega⟩
end
end Go.Proofs.Ytkkebpcclklmcaa
