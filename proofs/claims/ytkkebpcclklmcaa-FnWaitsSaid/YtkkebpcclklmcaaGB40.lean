/-
  Texts put together: JobLaw3, WrLaw.
-/
import Derived.Test.YtkkebpcclklmcaaGB39
/-
  What a job leaves to be read: plain laws.
-/
set_option linter.unusedVariables false
set_option linter.unusedSimpArgs false
namespace Go.Proofs.Ytkkebpcclklmcaa
section
variable {K : Ker} {kp mv fa fb : Nat} {ra rb cs : List Int}
theorem set_getElem?_self {α : Type} {l : List α} {i : Nat} {a : α} (h : l[i]? = some a) : l.set i a = l := by
  have hl := getx_lt h
  rw [List.getElem?_eq_getElem hl] at h
  have := Option.some.inj h
  subst this
  exact List.set_getElem_self hl
/-- Nothing copied, nothing protected: the machine is the base's. -/
theorem view_m0 (h : PairB K kp mv fa fb ra rb cs) (ph : Int) (calls : Int) (h4 : ph ≠ 4) (hm : mid ph = false) : (view K mv fa fb ra rb cs ph 0 calls).m = K.m := by
  rw [view_not4 ph 0 calls h4, hm, List.take_zero]
  have e1 : copyRow rb ra [] = ra := rfl
  rw [e1, set_getElem?_self h.ha]
  simp only [Bool.false_eq_true, if_false]
  rw [set_getElem?_self h.em]
theorem view_start (h : PairB K kp mv fa fb ra rb cs) : view K mv fa fb ra rb cs 0 0 K.calls = K := by
  have := view_m0 h 0 K.calls (by decide) rfl
  have e1 := view_calls (K := K) (mv := mv) (fa := fa) (fb := fb) (ra := ra) (rb := rb) (cs := cs) 0 0 K.calls
  have e2 := view_refuse (K := K) (mv := mv) (fa := fa) (fb := fb) (ra := ra) (rb := rb) (cs := cs) 0 0 K.calls
  generalize view K mv fa fb ra rb cs 0 0 K.calls = V at *
  obtain ⟨m, c, r⟩ := V
  obtain ⟨m', c', r'⟩ := K
  dsimp only at *
  rw [this, e1, e2]
theorem jv_start (h : PairB K kp mv fa fb ra rb cs) (hc : 0 ≤ K.calls) : JV K mv fa fb ra rb cs ⟨K, 0, 0⟩ 0 K.calls :=
  ⟨(view_start h).symm, rfl, Nat.zero_le _, by simp, fun _ => rfl, fun _ => rfl, fun h => by simp at h, fun h => by simp at h, hc⟩
/-! Where the live cell i lies, and what it holds. -/
def livePg (kp mv : Nat) (cs : List Int) (i : Nat) : Nat := if (i : Int) ∈ cs then mv else kp
def liveV (ra rb cs : List Int) (i : Nat) : Int := if (i : Int) ∈ cs then rb.getD i 0 else ra.getD i 0
theorem view_load (h : PairB K kp mv fa fb ra rb cs) (ph : Int) (n : Nat) (calls : Int) (i : Nat) (hi : i < 16) :
    loadV (view K mv fa fb ra rb cs ph n calls).m (16 * (livePg kp mv cs i : Int) + i) = liveV ra rb cs i ∧ loadF (view K mv fa fb ra rb cs ph n calls).m (16 * (livePg kp mv cs i : Int) + i) = 0 := by
  have hok := view_ok h ph n calls
  have hnn : ∀ m, ∀ c ∈ cs.take m, 0 ≤ c := fun m c hc => (h.cok.rng c (List.mem_of_mem_take hc)).1
  have hia : i < ra.length := by rw [h.la]; exact hi
  unfold livePg liveV
  by_cases hm : (i : Int) ∈ cs
  · rw [if_pos hm, if_pos hm]
    by_cases h4 : ph = 4
    · subst h4
      have L := load_parts (p := mv) hi hok (view_em4 h n calls) (by decide)
      rw [L.1, L.2]
      refine ⟨?_, rfl⟩
      rw [view_4]
      dsimp only
      rw [List.getD_eq_getElem?_getD (l := List.set _ _ _), List.getElem?_set_ne (fun e => h.nf e.symm), List.getElem?_set_self h.fa_lt, Option.getD_some, copyRow_get rb cs ra i (fun c hc => (h.cok.rng c hc).1) hia, if_pos hm]
    · have L := load_parts (p := mv) hi hok (view_em h ph n calls h4) (by split <;> decide)
      rw [L.1, L.2]
      refine ⟨?_, rfl⟩
      rw [view_not4 ph n calls h4]
      dsimp only
      rw [row_fb h]
  · rw [if_neg hm, if_neg hm]
    have L := load_parts (p := kp) hi hok (view_ek h ph n calls) (by decide)
    rw [L.1, L.2]
    refine ⟨?_, rfl⟩
    by_cases h4 : ph = 4
    · subst h4
      rw [view_4]
      dsimp only
      rw [List.getD_eq_getElem?_getD (l := List.set _ _ _), List.getElem?_set_ne (fun e => h.nf e.symm), List.getElem?_set_self h.fa_lt, Option.getD_some, copyRow_get rb cs ra i (fun c hc => (h.cok.rng c hc).1) hia, if_neg hm]
    · rw [view_not4 ph n calls h4]
      dsimp only
      rw [row_fa h, copyRow_get rb _ ra i (hnn n) hia, if_neg (fun hx => hm (List.mem_of_mem_take hx))]
theorem base_load (h : PairB K kp mv fa fb ra rb cs) (i : Nat) (hi : i < 16) : loadV K.m (16 * (livePg kp mv cs i : Int) + i) = liveV ra rb cs i ∧ loadF K.m (16 * (livePg kp mv cs i : Int) + i) = 0 := by
  have := view_load h 0 0 K.calls i hi
  rwa [view_start h] at this
/-! The texts of pages; the frames in use. -/
def textM (M : Mac) (p : Int) : List Int := if (mappedB M.ents p && machineOk M) = true then M.f.cells.getD (pageEntry M.ents p).f.toNat [] else []
theorem textM_at {M : Mac} {p : Int} {em : Int} {f : Nat} (hok : MOk M) (he : pageEntry M.ents p = ⟨em, f⟩) (hem : em ≠ 0) : textM M p = M.f.cells.getD f [] := by
  unfold textM mappedB
  rw [(machineOk_iff _).2 hok, he]
  have : (em != 0) = true := by rw [bne_iff_ne]; exact hem
  dsimp only
  rw [this, Bool.and_true, if_pos rfl, Int.toNat_natCast]
theorem done_texts (h : PairB K kp mv fa fb ra rb cs) (n : Nat) (calls : Int) : textM (view K mv fa fb ra rb cs 4 n calls).m kp = copyRow rb ra cs ∧ textM (view K mv fa fb ra rb cs 4 n calls).m mv = copyRow rb ra cs := by
  have hok := view_ok h 4 n calls
  rw [textM_at hok (view_ek h 4 n calls) (by decide), textM_at hok (view_em4 h n calls) (by decide), view_4]
  dsimp only
  rw [List.getD_eq_getElem?_getD, List.getElem?_set_ne (fun e => h.nf e.symm), List.getElem?_set_self h.fa_lt]
  exact ⟨rfl, rfl⟩
theorem base_texts (h : PairB K kp mv fa fb ra rb cs) : textM K.m kp = ra ∧ textM K.m mv = rb := by
  rw [textM_at h.ok (pageEntry_at h.ek) (by decide), textM_at h.ok (pageEntry_at h.em) (by decide), getD_of h.ha, getD_of h.hb]
  exact ⟨rfl, rfl⟩
def usedTo (us : List Bool) : Nat → Nat
  | 0 => 0
  | k + 1 => usedTo us k + if us.getD k false = true then 1 else 0
def usedN (F : Frm) : Nat := if framesOk F = true then usedTo F.used F.used.length else 0
theorem usedTo_set (us : List Bool) (i : Nat) (h : us[i]? = some true) : ∀ k, usedTo (us.set i false) k + (if i < k then 1 else 0) = usedTo us k
  | 0 => by simp [usedTo]
  | k + 1 => by
    have ih := usedTo_set us i h k
    rw [usedTo, usedTo]
    by_cases e : i = k
    · subst e
      have hl := getx_lt h
      have e1 : (us.set i false).getD i false = false := by rw [List.getD_eq_getElem?_getD, List.getElem?_set_self hl]; rfl
      have e2 : us.getD i false = true := getD_of h
      rw [e1, e2]
      have c1 : ¬ i < i := by omega
      have c2 : i < i + 1 := by omega
      simp only [c1, c2, if_true, if_false, Bool.false_eq_true] at ih ⊢
      omega
    · have e1 : (us.set i false).getD k false = us.getD k false := by rw [List.getD_eq_getElem?_getD, List.getElem?_set_ne e, ← List.getD_eq_getElem?_getD]
      rw [e1]
      by_cases h1 : i < k
      · have h2 : i < k + 1 := by omega
        simp only [h1, h2, if_true] at ih ⊢; omega
      · have h2 : ¬ i < k + 1 := by omega
        simp only [h1, h2, if_false] at ih ⊢; omega
theorem done_used (h : PairB K kp mv fa fb ra rb cs) (n : Nat) (calls : Int) : (usedN (view K mv fa fb ra rb cs 4 n calls).m.f : Int) = (usedN K.m.f : Int) - 1 := by
  have h1 := view_ok h 4 n calls
  have f1 : framesOk (view K mv fa fb ra rb cs 4 n calls).m.f = true := (framesOk_iff _).2 ⟨h1.n1, h1.u1, h1.row⟩
  have f2 : framesOk K.m.f = true := (framesOk_iff _).2 ⟨h.ok.n1, h.ok.u1, h.ok.row⟩
  unfold usedN
  rw [f1, f2, if_pos rfl, if_pos rfl, view_4]
  dsimp only
  rw [List.length_set]
  have := usedTo_set K.m.f.used fb h.ub K.m.f.used.length
  rw [if_pos (getx_lt h.ub)] at this
  omega
/-- A run of 200 steps ends: done, or everything as it was. -/
theorem run_ends (h : PairB K kp mv fa fb ra rb cs) (h16 : cs.length ≤ 16) (hb : ∀ y ∈ K.refuse, y < 12) (hc : 0 ≤ K.calls ∧ K.calls ≤ 1000) :
    ∃ n calls, runJ kp mv cs 200 ⟨K, 0, 0⟩ = ⟨view K mv fa fb ra rb cs (runJ kp mv cs 200 ⟨K, 0, 0⟩).ph n calls, (runJ kp mv cs 200 ⟨K, 0, 0⟩).ph, n⟩ ∧ ((runJ kp mv cs 200 ⟨K, 0, 0⟩).ph = 4 ∨ ((runJ kp mv cs 200 ⟨K, 0, 0⟩).ph = 5 ∧ n = 0)) ∧ 0 ≤ calls ∧ calls ≤ 2000 := by
  obtain ⟨n, calls, ⟨h1, h2, h3, h4, h5, h6, h7, h8, h9⟩, g2, g3, g4⟩ := jv_run h h16 hb 200 ⟨K, 0, 0⟩ 0 K.calls (jv_start h hc.1) (by omega)
  have ho := g4 (Nat.le_trans (mu_le _ h16 (Nat.zero_le _) hc.1) (by omega))
  refine ⟨n, calls, ?_, ?_, by omega, by omega⟩
  · generalize runJ kp mv cs 200 ⟨K, 0, 0⟩ = s at *
    obtain ⟨k, ph, nx⟩ := s
    dsimp only at *
    rw [h1, h2]
  · unfold overB at ho
    rw [Bool.or_eq_true, beq_iff_eq, beq_iff_eq] at ho
    rcases ho with ho | ho
    · exact .inl ho
    · exact .inr ⟨ho, h6 ho⟩
/-- Two runs, one behind the other. -/
theorem runJ_add (p m : Int) (a b : Nat) : ∀ s : JS, runJ p m cs (a + b) s = runJ p m cs b (runJ p m cs a s) := by
  induction a with
  | zero => intro s; rw [Nat.zero_add]; rfl
  | succ a ih =>
    intro s
    rw [show a + 1 + b = a + b + 1 by omega]
    cases ho : overB s.ph
    · rw [runJ_next _ ho, runJ_next _ ho]; exact ih _
    · rw [runJ_over _ ho, runJ_over _ ho, runJ_over _ ho]
end
end Go.Proofs.Ytkkebpcclklmcaa
/-
  Writers between the steps of a job: a plain law.
-/
set_option linter.unusedVariables false
set_option linter.unusedSimpArgs false
namespace Go.Proofs.Ytkkebpcclklmcaa
/-! A cell of a mapped page is set. -/
section
variable {K : Ker} {kp mv fa fb : Nat} {ra rb cs : List Int}
/-- The base kernel with the live cell i set. -/
def putK (K : Ker) (fa fb : Nat) (cs : List Int) (i : Nat) (v : Int) : Ker := ⟨setC K.m (if (i : Int) ∈ cs then fb else fa) i v, K.calls, K.refuse⟩
def putA (ra cs : List Int) (i : Nat) (v : Int) : List Int := if (i : Int) ∈ cs then ra else ra.set i v
def putB (rb cs : List Int) (i : Nat) (v : Int) : List Int := if (i : Int) ∈ cs then rb.set i v else rb
theorem put_pair (h : PairB K kp mv fa fb ra rb cs) {i : Nat} {v : Int} (hv : 0 ≤ v ∧ v ≤ 999) : PairB (putK K fa fb cs i v) kp mv fa fb (putA ra cs i v) (putB rb cs i v) cs := by
  by_cases hm : (i : Int) ∈ cs
  · unfold putK putA putB
    rw [if_pos hm, if_pos hm, if_pos hm]
    refine ⟨setC_ok h.ok h.ub hv, h.ref, h.rl, h.ek, h.em, h.nf, h.onA, h.onB, ?_, ?_, h.za, ?_, h.cok, h.plan⟩
    · show (K.m.f.cells.set fb _)[fa]? = some ra
      rw [List.getElem?_set_ne (fun e => h.nf e.symm), h.ha]
    · show (K.m.f.cells.set fb _)[fb]? = _
      rw [List.getElem?_set_self h.fb_lt, getD_of h.hb]
    · intro j hj
      rw [getD_set_ne (fun e => hj (by rw [← e]; exact hm))]
      exact h.zb j hj
  · unfold putK putA putB
    rw [if_neg hm, if_neg hm, if_neg hm]
    refine ⟨setC_ok h.ok h.ua hv, h.ref, h.rl, h.ek, h.em, h.nf, h.onA, h.onB, ?_, ?_, ?_, h.zb, h.cok, h.plan⟩
    · show (K.m.f.cells.set fa _)[fa]? = _
      rw [List.getElem?_set_self h.fa_lt, getD_of h.ha]
    · show (K.m.f.cells.set fa _)[fb]? = some rb
      rw [List.getElem?_set_ne h.nf, h.hb]
    · intro c hc
      have h0 := (h.cok.rng c hc).1
      rw [getD_set_ne (fun e => hm (by rw [e, Int.toNat_of_nonneg h0]; exact hc))]
      exact h.za c hc
theorem copy_setA {i : Nat} {ds : List Int} (h0 : ∀ c ∈ ds, (0 : Int) ≤ c) (hm : (i : Int) ∉ ds) (v : Int) : (copyRow rb ra ds).set i v = copyRow rb (ra.set i v) ds := by
  refine list_ext0 (by rw [List.length_set, copyRow_len, copyRow_len, List.length_set]) fun j hj => ?_
  rw [List.length_set, copyRow_len] at hj
  rw [copyRow_get rb ds (ra.set i v) j h0 (by rw [List.length_set]; exact hj)]
  by_cases e : i = j
  · subst e
    rw [getD_set_self (by rw [copyRow_len]; exact hj), if_neg hm, getD_set_self hj]
  · rw [getD_set_ne e, getD_set_ne e, copyRow_get rb ds ra j h0 hj]
theorem copy_setB {i : Nat} {ds : List Int} (hlb : i < rb.length) (h0 : ∀ c ∈ ds, (0 : Int) ≤ c) (hm : (i : Int) ∈ ds) (v : Int) : (copyRow rb ra ds).set i v = copyRow (rb.set i v) ra ds := by
  refine list_ext0 (by rw [List.length_set, copyRow_len, copyRow_len]) fun j hj => ?_
  rw [List.length_set, copyRow_len] at hj
  rw [copyRow_get (rb.set i v) ds ra j h0 hj]
  by_cases e : i = j
  · subst e
    rw [getD_set_self (by rw [copyRow_len]; exact hj), if_pos hm, getD_set_self hlb]
  · rw [getD_set_ne e, getD_set_ne e, copyRow_get rb ds ra j h0 hj]
/-- A store to a live cell, seen from the base: refused while the page is protected, else the base's cell is set. -/
theorem view_store (h : PairB K kp mv fa fb ra rb cs) {ph : Int} {n : Nat} {calls : Int} (h05 : mid ph = false → ph = 4 ∨ n = 0) {i : Nat} {v : Int} (hi : i < 16) (hv : 0 ≤ v ∧ v ≤ 999) :
    storeF (view K mv fa fb ra rb cs ph n calls).m ((livePg kp mv cs i : Int) * 16 + i) v = (if (i : Int) ∈ cs ∧ mid ph = true then 2 else 0) ∧
    (¬ ((i : Int) ∈ cs ∧ mid ph = true) → (⟨storeM (view K mv fa fb ra rb cs ph n calls).m ((livePg kp mv cs i : Int) * 16 + i) v, (view K mv fa fb ra rb cs ph n calls).calls, (view K mv fa fb ra rb cs ph n calls).refuse⟩ : Ker) = view (putK K fa fb cs i v) mv fa fb (putA ra cs i v) (putB rb cs i v) cs ph n calls) := by
  have hok := view_ok h ph n calls
  have hia : i < ra.length := by rw [h.la]; exact hi
  have hib : i < rb.length := by rw [h.lb]; exact hi
  have hnn : ∀ m, ∀ c ∈ cs.take m, 0 ≤ c := fun m c hc => (h.cok.rng c (List.mem_of_mem_take hc)).1
  have hn0 : ∀ c ∈ cs, 0 ≤ c := fun c hc => (h.cok.rng c hc).1
  by_cases hm : (i : Int) ∈ cs
  · have elp : livePg kp mv cs i = mv := if_pos hm
    rw [elp]
    by_cases h4 : ph = 4
    · subst h4
      have S := store_parts (p := mv) hi hok (view_em4 h n calls) (by decide) hv
      refine ⟨by rw [S.1]; simp [mid], fun _ => ?_⟩
      rw [S.2 (by decide), view_calls, view_refuse, view_4, view_4]
      unfold putK putA putB setC
      rw [if_pos hm, if_pos hm, if_pos hm]
      simp only [Ker.mk.injEq, Mac.mk.injEq, Frm.mk.injEq, and_true]
      have e1 : ((K.m.f.cells.set fa (copyRow rb ra cs)).set fb (List.replicate 16 0)).getD fa [] = copyRow rb ra cs := by
        rw [List.getD_eq_getElem?_getD, List.getElem?_set_ne (fun e => h.nf e.symm), List.getElem?_set_self h.fa_lt]; rfl
      have e2 : ∀ (L : List (List Int)) (X Y Z : List Int), ((L.set fb X).set fa Y).set fb Z = (L.set fa Y).set fb Z := fun L X Y Z => by
        rw [List.set_comm _ _ (fun e => h.nf e.symm), List.set_set]
      have e3 : ∀ (L : List (List Int)) (X Y Z : List Int), ((L.set fa X).set fb Y).set fa Z = (L.set fa Z).set fb Y := fun L X Y Z => by
        rw [List.set_comm _ _ (fun e => h.nf e.symm), List.set_set]
      rw [e1, copy_setB hib hn0 hm, e2, e3]
    · have S := store_parts (p := mv) hi hok (view_em h ph n calls h4) (by split <;> decide) hv
      cases hmid : mid ph
      · rw [hmid] at S
        refine ⟨by rw [S.1]; simp, fun _ => ?_⟩
        have hn : n = 0 := (h05 hmid).resolve_left h4
        subst hn
        rw [S.2 (by decide), view_calls, view_refuse, view_not4 ph 0 calls h4, view_not4 ph 0 calls h4]
        unfold putK putA putB setC
        rw [if_pos hm, if_pos hm, if_pos hm]
        simp only [Ker.mk.injEq, Mac.mk.injEq, Frm.mk.injEq, and_true]
        have e1 : (K.m.f.cells.set fa (copyRow rb ra (cs.take 0))).getD fb [] = rb := row_fb h _
        rw [e1, List.take_zero]
        have e2 : copyRow rb ra [] = ra := rfl
        have e3 : copyRow (rb.set i v) ra [] = ra := rfl
        rw [e2, e3, getD_of h.hb, List.set_comm _ _ h.nf]
      · rw [hmid] at S
        exact ⟨by rw [S.1]; simp [hm], fun hx => absurd ⟨hm, rfl⟩ hx⟩
  · have elp : livePg kp mv cs i = kp := if_neg hm
    rw [elp]
    have S := store_parts (p := kp) hi hok (view_ek h ph n calls) (by decide) hv
    refine ⟨by rw [S.1]; simp [hm], fun _ => ?_⟩
    rw [S.2 (by decide), view_calls, view_refuse]
    by_cases h4 : ph = 4
    · subst h4
      rw [view_4, view_4]
      unfold putK putA putB setC
      rw [if_neg hm, if_neg hm, if_neg hm]
      simp only [Ker.mk.injEq, Mac.mk.injEq, Frm.mk.injEq, and_true]
      have e1 : ((K.m.f.cells.set fa (copyRow rb ra cs)).set fb (List.replicate 16 0)).getD fa [] = copyRow rb ra cs := by
        rw [List.getD_eq_getElem?_getD, List.getElem?_set_ne (fun e => h.nf e.symm), List.getElem?_set_self h.fa_lt]; rfl
      rw [e1, copy_setA hn0 hm, List.set_comm _ _ (fun e => h.nf e.symm), List.set_set, List.set_set]
    · rw [view_not4 ph n calls h4, view_not4 ph n calls h4]
      unfold putK putA putB setC
      rw [if_neg hm, if_neg hm, if_neg hm]
      simp only [Ker.mk.injEq, Mac.mk.injEq, Frm.mk.injEq, and_true]
      have e1 : (K.m.f.cells.set fa (copyRow rb ra (cs.take n))).getD fa [] = copyRow rb ra (cs.take n) := row_fa h _
      rw [e1, copy_setA (hnn n) (fun hx => hm (List.mem_of_mem_take hx)), List.set_set, List.set_set]
end
end Go.Proofs.Ytkkebpcclklmcaa
