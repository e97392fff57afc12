/-
  Texts put together: Ilv, JobLaw2.
-/
import Derived.Test.YtkkebpcclklmcaaGB25
import Derived.Test.YtkkebpcclklmcaaGB38
import Derived.Test.YtkkebpcclklmcaaGB33
/-
  Jobs and writers in turn: what Interleave and Finish compute.
-/
set_option linter.unusedVariables false
set_option linter.unusedSimpArgs false
namespace Go.Proofs.Ytkkebpcclklmcaa
structure IS where
  s : JS
  ws : List Wr
def wAt (ws : List Wr) (i : Nat) : Wr := ws.getD i default
def wStep (i : Nat) (t : IS) : IS := ⟨⟨wrK t.s.k (wAt t.ws i), t.s.ph, t.s.nx⟩, t.ws.set i (wrW t.s.k (wAt t.ws i))⟩
def ilStep (kp mv : Int) (cs : List Int) (x : Int) (t : IS) : IS :=
  if x = -1 then ⟨jsStep kp mv cs t.s, t.ws⟩ else if between x 0 (t.ws.length - 1) = true then wStep x.toNat t else t
def ilTo (kp mv : Int) (cs order : List Int) : Nat → IS → IS
  | 0, t => t
  | n + 1, t => ilStep kp mv cs (order.getD n 0) (ilTo kp mv cs order n t)
def interl (kp mv : Int) (cs order : List Int) (t : IS) : IS := if order.length ≤ 200 then ilTo kp mv cs order order.length t else t
def finTo : Nat → IS → IS
  | 0, t => t
  | n + 1, t => wStep n (finTo n t)
def finishI (kp mv : Int) (cs : List Int) (t : IS) : IS := finTo t.ws.length ⟨runJ kp mv cs 200 t.s, t.ws⟩
theorem szK_store' (K : Ker) (a v : Int) : szK ⟨storeM K.m a v, K.calls, K.refuse⟩ = szK K := szK_store K a v
theorem szK_wr (K : Ker) (x : Wr) : szK (wrK K x) = szK K := by
  unfold wrK
  split
  · rfl
  split
  · rfl
  · exact szK_store ..
theorem wStep_len (i : Nat) (t : IS) : (wStep i t).ws.length = t.ws.length := by unfold wStep; simp
theorem ilStep_len (kp mv : Int) (cs : List Int) (x : Int) (t : IS) : (ilStep kp mv cs x t).ws.length = t.ws.length := by
  unfold ilStep
  split
  · rfl
  split
  · exact wStep_len ..
  · rfl
theorem ilTo_len (kp mv : Int) (cs order : List Int) : ∀ (n : Nat) (t : IS), (ilTo kp mv cs order n t).ws.length = t.ws.length
  | 0, _ => rfl
  | n + 1, t => by rw [ilTo, ilStep_len, ilTo_len kp mv cs order n t]
theorem finTo_len : ∀ (n : Nat) (t : IS), (finTo n t).ws.length = t.ws.length
  | 0, _ => rfl
  | n + 1, t => by rw [finTo, wStep_len, finTo_len n t]
theorem sz_wStep (i : Nat) (t : IS) : szK (wStep i t).s.k = szK t.s.k := szK_wr ..
theorem sz_ilStep (kp mv : Int) (cs : List Int) (x : Int) (t : IS) : szK (ilStep kp mv cs x t).s.k = szK t.s.k := by
  unfold ilStep
  split
  · exact szK_job ..
  split
  · exact sz_wStep ..
  · rfl
theorem sz_ilTo (kp mv : Int) (cs order : List Int) : ∀ (n : Nat) (t : IS), szK (ilTo kp mv cs order n t).s.k = szK t.s.k
  | 0, _ => rfl
  | n + 1, t => by rw [ilTo, sz_ilStep, sz_ilTo kp mv cs order n t]
theorem sz_finTo : ∀ (n : Nat) (t : IS), szK (finTo n t).s.k = szK t.s.k
  | 0, _ => rfl
  | n + 1, t => by rw [finTo, sz_wStep, sz_finTo n t]
end Go.Proofs.Ytkkebpcclklmcaa
/-
  A job's steps, seen from the base kernel: a plain law.
-/
set_option linter.unusedVariables false
set_option linter.unusedSimpArgs false
namespace Go.Proofs.Ytkkebpcclklmcaa
section
variable {K : Ker} {kp mv fa fb : Nat} {ra rb cs : List Int}
theorem view_not4 (ph : Int) (n : Nat) (calls : Int) (h4 : ph ≠ 4) : view K mv fa fb ra rb cs ph n calls = ⟨⟨⟨K.m.f.cells.set fa (copyRow rb ra (cs.take n)), K.m.f.used⟩, K.m.ents.set mv ⟨if mid ph then 1 else 2, fb⟩⟩, calls, K.refuse⟩ := if_neg h4
theorem view_4 (n : Nat) (calls : Int) : view K mv fa fb ra rb cs 4 n calls = ⟨⟨⟨(K.m.f.cells.set fa (copyRow rb ra cs)).set fb (List.replicate 16 0), K.m.f.used.set fb false⟩, K.m.ents.set mv ⟨2, fa⟩⟩, calls, K.refuse⟩ := rfl
theorem view_ek (h : PairB K kp mv fa fb ra rb cs) (ph : Int) (n : Nat) (calls : Int) : pageEntry (view K mv fa fb ra rb cs ph n calls).m.ents kp = ⟨2, fa⟩ := by
  apply pageEntry_at
  have e : ∀ x : Ent, (K.m.ents.set mv x)[kp]? = some ⟨2, fa⟩ := fun x => by rw [List.getElem?_set_ne (fun e => h.np e.symm)]; exact h.ek
  unfold view
  split <;> exact e _
theorem view_em (h : PairB K kp mv fa fb ra rb cs) (ph : Int) (n : Nat) (calls : Int) (h4 : ph ≠ 4) : pageEntry (view K mv fa fb ra rb cs ph n calls).m.ents mv = ⟨if mid ph then 1 else 2, fb⟩ := by
  apply pageEntry_at
  rw [view_not4 ph n calls h4]
  exact List.getElem?_set_self (getx_lt h.em)
theorem view_em4 (h : PairB K kp mv fa fb ra rb cs) (n : Nat) (calls : Int) : pageEntry (view K mv fa fb ra rb cs 4 n calls).m.ents mv = ⟨2, fa⟩ := by
  apply pageEntry_at
  exact List.getElem?_set_self (getx_lt h.em)
theorem view_mk (h : PairB K kp mv fa fb ra rb cs) (ph : Int) (n : Nat) (calls : Int) : mappedB (view K mv fa fb ra rb cs ph n calls).m.ents kp = true := by
  unfold mappedB; rw [view_ek h]; rfl
theorem view_mm (h : PairB K kp mv fa fb ra rb cs) (ph : Int) (n : Nat) (calls : Int) : mappedB (view K mv fa fb ra rb cs ph n calls).m.ents mv = true := by
  unfold mappedB
  by_cases h4 : ph = 4
  · subst h4; rw [view_em4 h]; rfl
  · rw [view_em h ph n calls h4]; cases mid ph <;> rfl
theorem view_may (h : PairB K kp mv fa fb ra rb cs) {ph : Int} {n : Nat} {calls : Int} (h4 : ph ≠ 4) (hp : 0 ≤ ph ∧ ph ≤ 5) (hn : n ≤ cs.length) (hc : 0 ≤ calls ∧ calls < 100000) : jobMay (view K mv fa fb ra rb cs ph n calls) kp mv cs ph n = true := by
  unfold jobMay jobOk
  rw [view_can h ph n calls hc, h.plan, between_iff.2 hp, between_iff.2 ⟨by omega, by omega⟩, view_mk h, view_mm h, view_ek h, view_em h ph n calls h4]
  have := h.nf
  simp; omega
theorem view_stop (h : PairB K kp mv fa fb ra rb cs) {n : Nat} {calls nx : Int} : jobMay (view K mv fa fb ra rb cs 4 n calls) kp mv cs 4 nx = false := by
  unfold jobMay
  rw [view_ek h, view_em4 h]
  simp
theorem granted_view (ph : Int) (n : Nat) (calls : Int) : grantedB (view K mv fa fb ra rb cs ph n calls) = !hasI K.refuse calls := by
  unfold grantedB; rw [view_refuse, view_calls]
theorem counted_view (ph ph' : Int) (n : Nat) (calls : Int) (h4 : ph ≠ 4) (h4' : ph' ≠ 4) (hm : mid ph = mid ph') : countedK (view K mv fa fb ra rb cs ph n calls) = view K mv fa fb ra rb cs ph' n (calls + 1) := by
  rw [view_not4 ph n calls h4, view_not4 ph' n _ h4', hm]
theorem prot_view (h : PairB K kp mv fa fb ra rb cs) (ph mode : Int) (n : Nat) (calls : Int) (hmd : 1 ≤ mode ∧ mode ≤ 2) : protB (view K mv fa fb ra rb cs ph n calls) mv mode = !hasI K.refuse calls := by
  unfold protB
  rw [granted_view, view_mm h, between_iff.2 hmd]; simp
theorem setEnt_view (h : PairB K kp mv fa fb ra rb cs) (ph ph' mode : Int) (n : Nat) (calls : Int) (h4 : ph ≠ 4) (h4' : ph' ≠ 4) (hm : mode = if mid ph' then 1 else 2) :
    setEnt (countedK (view K mv fa fb ra rb cs ph n calls)) mv ⟨mode, (pageEntry (view K mv fa fb ra rb cs ph n calls).m.ents mv).f⟩ = view K mv fa fb ra rb cs ph' n (calls + 1) := by
  rw [view_em h ph n calls h4, view_not4 ph n calls h4, view_not4 ph' n _ h4', hm]
  simp only [setEnt, Int.toNat_natCast, List.set_set]
theorem kProt_view (h : PairB K kp mv fa fb ra rb cs) (ph pg pr mode : Int) (n : Nat) (calls : Int) (hc : 0 ≤ calls ∧ calls < 100000) (h4 : ph ≠ 4) (hg : pg ≠ 4) (hr : pr ≠ 4) (hm : mode = if mid pg then 1 else 2) (hm2 : mid ph = mid pr) :
    kProtK (view K mv fa fb ra rb cs ph n calls) mv mode = view K mv fa fb ra rb cs (if hasI K.refuse calls then pr else pg) n (calls + 1) := by
  have hmd : 1 ≤ mode ∧ mode ≤ 2 := by subst hm; split <;> omega
  unfold kProtK
  rw [if_pos (view_can h ph n calls hc), prot_view h ph mode n calls hmd]
  cases hasI K.refuse calls
  · rw [if_pos (by rfl), if_neg (by simp)]
    exact setEnt_view h ph pg mode n calls h4 hg hm
  · rw [if_neg (by simp), if_pos rfl]
    exact counted_view ph pr n calls h4 hr hm2
theorem row_fa (h : PairB K kp mv fa fb ra rb cs) (r : List Int) : (K.m.f.cells.set fa r).getD fa [] = r := by
  rw [List.getD_eq_getElem?_getD, List.getElem?_set_self h.fa_lt]; rfl
theorem row_fb (h : PairB K kp mv fa fb ra rb cs) (r : List Int) : (K.m.f.cells.set fa r).getD fb [] = rb := by
  rw [List.getD_eq_getElem?_getD, List.getElem?_set_ne h.nf, h.hb]; rfl
theorem kCopy_view (h : PairB K kp mv fa fb ra rb cs) (n : Nat) (calls c : Int) (hc : 0 ≤ calls ∧ calls < 100000) (hcn : cs[n]? = some c) :
    kCopyK (view K mv fa fb ra rb cs 1 n calls) mv kp [c] = view K mv fa fb ra rb cs 1 (n + 1) calls := by
  have hr := h.cok.rng c (List.mem_of_getElem? hcn)
  unfold kCopyK
  rw [if_pos (view_can h 1 n calls hc)]
  unfold copyS
  have hb : copyB (view K mv fa fb ra rb cs 1 n calls) mv kp [c] = true := by
    unfold copyB cellsOkB
    rw [view_mk h, view_mm h]
    simp [allTo, between]
    omega
  rw [if_pos hb, view_ek h, view_em h 1 n calls (by decide), view_not4 1 n calls (by decide), view_not4 1 (n + 1) calls (by decide), copyRow_snoc hcn]
  simp only [withF, copyF, Int.toNat_natCast, row_fa h, row_fb h, List.set_set]
  rfl
theorem onB_view (h : PairB K kp mv fa fb ra rb cs) (ph : Int) (n : Nat) (calls : Int) : onB (view K mv fa fb ra rb cs ph n calls) mv kp = !hasI K.refuse calls := by
  unfold onB
  rw [granted_view, view_mm h, view_mk h]
  have := h.np
  have e : ((mv : Int) != kp) = true := by rw [bne_iff_ne]; omega
  rw [e]; simp
theorem kMapOn_view (h : PairB K kp mv fa fb ra rb cs) (calls : Int) (hc : 0 ≤ calls ∧ calls < 100000) :
    kMapOnK (view K mv fa fb ra rb cs 2 cs.length calls) mv kp = view K mv fa fb ra rb cs (if hasI K.refuse calls then 3 else 4) cs.length (calls + 1) := by
  unfold kMapOnK
  rw [if_pos (view_can h 2 _ calls hc)]
  unfold mapOnS
  rw [onB_view h]
  cases hasI K.refuse calls
  · rw [if_pos (by rfl), if_neg (by simp), view_ek h, view_em h 2 _ calls (by decide), view_not4 2 _ calls (by decide), view_4, List.take_length]
    simp only [setEnt, Int.toNat_natCast, List.set_set]
    unfold dropK
    rw [if_pos]
    · simp only [withF, dropF, Int.toNat_natCast]
    · apply pagesOn_nil
      intro i e hi hm hf
      dsimp only at hi hf
      rcases getElem?_set_cases hi with ⟨rfl, rfl⟩ | ⟨hne, hi⟩
      · have := h.nf; dsimp only at hf; omega
      · exact hne (h.onB i e hi hm hf)
  · rw [if_neg (by simp), if_pos rfl]
    exact counted_view 2 3 _ calls (by decide) (by decide) rfl
theorem store_view (h : PairB K kp mv fa fb ra rb cs) (n : Nat) (calls c : Int) (hcn : cs[n]? = some c) :
    (⟨storeM (view K mv fa fb ra rb cs 3 (n + 1) calls).m ((kp : Int) * 16 + c) 0, (view K mv fa fb ra rb cs 3 (n + 1) calls).calls, (view K mv fa fb ra rb cs 3 (n + 1) calls).refuse⟩ : Ker) = view K mv fa fb ra rb cs 3 n calls := by
  have hr := h.cok.rng c (List.mem_of_getElem? hcn)
  have d1 : ((kp : Int) * 16 + c) / 16 = kp := by omega
  have d2 : ((kp : Int) * 16 + c) % 16 = c := by omega
  have hm := (machineOk_iff _).2 (view_ok h 3 (n + 1) calls)
  have hl : loadOkB (view K mv fa fb ra rb cs 3 (n + 1) calls).m ((kp : Int) * 16 + c) = true := by
    unfold loadOkB
    rw [hm, d1, view_mk h, decide_eq_true (by omega)]; rfl
  have hf : storeF (view K mv fa fb ra rb cs 3 (n + 1) calls).m ((kp : Int) * 16 + c) 0 = 0 := by
    have he : entA (view K mv fa fb ra rb cs 3 (n + 1) calls).m ((kp : Int) * 16 + c) = ⟨2, fa⟩ := by
      unfold entA
      rw [if_neg (by omega), d1, view_ek h]
    unfold storeF
    rw [if_pos hl, he]
    rfl
  unfold storeM
  rw [hf, if_pos (by rfl), d1, d2, view_ek h, view_calls, view_refuse, view_not4 3 (n + 1) calls (by decide), view_not4 3 n calls (by decide)]
  simp only [Int.toNat_natCast, row_fa h, List.set_set, copyRow_back h.cok hcn (h.za c (List.mem_of_getElem? hcn))]
/-! Runs. -/
/-- A state of a job, seen from the base. -/
def JV (K : Ker) (mv fa fb : Nat) (ra rb cs : List Int) (s : JS) (n : Nat) (calls : Int) : Prop :=
  s.k = view K mv fa fb ra rb cs s.ph n calls ∧ s.nx = n ∧ n ≤ cs.length ∧ (0 ≤ s.ph ∧ s.ph ≤ 5) ∧ (s.ph = 0 → n = 0) ∧ (s.ph = 5 → n = 0) ∧ (s.ph = 2 → n = cs.length) ∧ (s.ph = 4 → n = cs.length) ∧ 0 ≤ calls
/-- How many steps are left, at most. -/
def mu (len : Nat) (ph : Int) (n : Nat) (calls : Int) : Nat :=
  if ph = 0 then 60 else if ph = 1 then 40 + (len - n) else if ph = 2 then 39 else if ph = 3 then n + 1 + (12 - calls).toNat else 0
theorem has_lt {xs : List Int} {x b : Int} (hb : ∀ y ∈ xs, y < b) (h : hasI xs x = true) : x < b := by
  unfold hasI at h
  have key : ∀ k, k ≤ xs.length → hasTo xs x k = true → x ∈ xs := by
    intro k
    induction k with
    | zero => intro _ h; cases h
    | succ k ih =>
      intro hk h
      rw [hasTo, Bool.or_eq_true, beq_iff_eq] at h
      rcases h with h | h
      · exact ih (by omega) h
      · obtain ⟨y, hy⟩ := getx (xs := xs) (k := k) (by omega)
        rw [getD_of hy] at h
        exact h ▸ List.mem_of_getElem? hy
  exact hb x (key _ (Nat.le_refl _) h)
theorem jv_step (h : PairB K kp mv fa fb ra rb cs) (h16 : cs.length ≤ 16) (hb : ∀ y ∈ K.refuse, y < 12) {s : JS} {n : Nat} {calls : Int} (hs : JV K mv fa fb ra rb cs s n calls) (ho : overB s.ph = false) (hc : calls < 100000) :
    ∃ n' calls', JV K mv fa fb ra rb cs (jsStep kp mv cs s) n' calls' ∧ calls ≤ calls' ∧ calls' ≤ calls + 1 ∧ mu cs.length (jsStep kp mv cs s).ph n' calls' < mu cs.length s.ph n calls := by
  obtain ⟨k, ph, nx⟩ := s
  obtain ⟨hk, hn, hnl, hp, h0, h5, h2, h4, hc0⟩ := hs
  dsimp only at hk hn hp h0 h5 h2 h4 ho
  subst hk hn
  unfold overB at ho
  simp only [Bool.or_eq_false_iff, beq_eq_false_iff_ne, ne_eq] at ho
  have hmay := view_may h ho.1 hp hnl ⟨hc0, hc⟩
  rw [jsStep_may hmay]
  have hcc : 0 ≤ calls ∧ calls < 100000 := ⟨hc0, hc⟩
  have hcan := view_can h ph n calls hcc
  rcases (by omega : ph = 0 ∨ ph = 1 ∨ ph = 2 ∨ ph = 3) with rfl | rfl | rfl | rfl
  · obtain rfl := h0 rfl
    have e := kProt_view h 0 1 5 1 0 calls hcc (by decide) (by decide) (by decide) rfl rfl
    have ep : stepPh (view K mv fa fb ra rb cs 0 0 calls) kp mv cs 0 (0 : Nat) = if hasI K.refuse calls then 5 else 1 := by
      unfold stepPh
      rw [if_pos rfl, hcan, prot_view h 0 1 0 calls (by omega)]
      cases hasI K.refuse calls <;> rfl
    have ek : stepK (view K mv fa fb ra rb cs 0 0 calls) kp mv cs 0 (0 : Nat) = view K mv fa fb ra rb cs (if hasI K.refuse calls then 5 else 1) 0 (calls + 1) := by
      unfold stepK
      rw [if_pos rfl]; exact e
    have en : stepNx cs 0 (0 : Nat) = (0 : Nat) := rfl
    dsimp only
    rw [ep, ek, en]
    refine ⟨0, calls + 1, ⟨rfl, rfl, Nat.zero_le _, ?_⟩, by omega, by omega, ?_⟩
    · cases hasI K.refuse calls <;> simp <;> omega
    · cases hasI K.refuse calls <;> simp [mu] <;> omega
  · by_cases hl : n = cs.length
    · subst hl
      have ep : stepPh (view K mv fa fb ra rb cs 1 cs.length calls) kp mv cs 1 (cs.length : Nat) = 2 := by
        unfold stepPh; rw [if_neg (by decide), if_pos rfl, if_pos rfl]
      have ek : stepK (view K mv fa fb ra rb cs 1 cs.length calls) kp mv cs 1 (cs.length : Nat) = view K mv fa fb ra rb cs 2 cs.length calls := by
        unfold stepK; rw [if_neg (by decide), if_pos rfl, if_pos rfl]; rfl
      have en : stepNx cs 1 (cs.length : Nat) = (cs.length : Nat) := by unfold stepNx; rw [if_pos rfl, if_pos rfl]
      dsimp only
      rw [ep, ek, en]
      exact ⟨cs.length, calls, ⟨rfl, rfl, Nat.le_refl _, by simp; omega⟩, by omega, by omega, by simp [mu]⟩
    · obtain ⟨c, hcn⟩ := getx (xs := cs) (k := n) (by omega)
      have hne : ¬ (n : Int) = (cs.length : Nat) := by omega
      have ep : stepPh (view K mv fa fb ra rb cs 1 n calls) kp mv cs 1 (n : Nat) = 1 := by
        unfold stepPh; rw [if_neg (by decide), if_pos rfl, if_neg hne]
      have ek : stepK (view K mv fa fb ra rb cs 1 n calls) kp mv cs 1 (n : Nat) = view K mv fa fb ra rb cs 1 (n + 1) calls := by
        unfold stepK; rw [if_neg (by decide), if_pos rfl, if_neg hne, Int.toNat_natCast, getD_of hcn]; exact kCopy_view h n calls c hcc hcn
      have en : stepNx cs 1 (n : Nat) = ((n + 1 : Nat) : Int) := by unfold stepNx; rw [if_pos rfl, if_neg hne]; omega
      dsimp only
      rw [ep, ek, en]
      exact ⟨n + 1, calls, ⟨rfl, rfl, by omega, by simp; omega⟩, by omega, by omega, by simp [mu]; omega⟩
  · obtain rfl := h2 rfl
    have ep : stepPh (view K mv fa fb ra rb cs 2 cs.length calls) kp mv cs 2 (cs.length : Nat) = if hasI K.refuse calls then 3 else 4 := by
      unfold stepPh
      rw [if_neg (by decide), if_neg (by decide), if_pos rfl, hcan, onB_view h]
      cases hasI K.refuse calls <;> rfl
    have ek : stepK (view K mv fa fb ra rb cs 2 cs.length calls) kp mv cs 2 (cs.length : Nat) = view K mv fa fb ra rb cs (if hasI K.refuse calls then 3 else 4) cs.length (calls + 1) := by
      unfold stepK
      rw [if_neg (by decide), if_neg (by decide), if_pos rfl]; exact kMapOn_view h calls hcc
    have en : stepNx cs 2 (cs.length : Nat) = (cs.length : Nat) := rfl
    dsimp only
    rw [ep, ek, en]
    refine ⟨cs.length, calls + 1, ⟨rfl, rfl, Nat.le_refl _, ?_⟩, by omega, by omega, ?_⟩
    · cases hasI K.refuse calls <;> simp <;> omega
    · cases hasI K.refuse calls <;> simp [mu] <;> omega
  · cases n with
    | zero =>
      have hz : ¬ (0 : Int) < ((0 : Nat) : Int) := by omega
      have e := kProt_view h 3 5 3 2 0 calls hcc (by decide) (by decide) (by decide) rfl rfl
      have ep : stepPh (view K mv fa fb ra rb cs 3 0 calls) kp mv cs 3 (0 : Nat) = if hasI K.refuse calls then 3 else 5 := by
        unfold stepPh
        rw [if_neg (by decide), if_neg (by decide), if_neg (by decide), if_pos rfl, if_neg hz, hcan, prot_view h 3 2 0 calls (by omega)]
        cases hasI K.refuse calls <;> rfl
      have ek : stepK (view K mv fa fb ra rb cs 3 0 calls) kp mv cs 3 (0 : Nat) = view K mv fa fb ra rb cs (if hasI K.refuse calls then 3 else 5) 0 (calls + 1) := by
        unfold stepK
        rw [if_neg (by decide), if_neg (by decide), if_neg (by decide), if_pos rfl, if_neg hz]; exact e
      have en : stepNx cs 3 (0 : Nat) = (0 : Nat) := rfl
      dsimp only
      rw [ep, ek, en]
      refine ⟨0, calls + 1, ⟨rfl, rfl, Nat.zero_le _, ?_⟩, by omega, by omega, ?_⟩
      · cases hasI K.refuse calls <;> simp <;> omega
      · cases hh : hasI K.refuse calls
        · simp [mu]; omega
        · have := has_lt hb hh
          simp [mu]; omega
    | succ n =>
      have hz : (0 : Int) < ((n + 1 : Nat) : Int) := by omega
      obtain ⟨c, hcn⟩ := getx (xs := cs) (k := n) (by omega)
      have e1 : ((n + 1 : Nat) : Int) - 1 = (n : Nat) := by omega
      have ep : stepPh (view K mv fa fb ra rb cs 3 (n + 1) calls) kp mv cs 3 ((n + 1 : Nat) : Int) = 3 := by
        unfold stepPh
        rw [if_neg (by decide), if_neg (by decide), if_neg (by decide), if_pos rfl, if_pos hz]
      have ek : stepK (view K mv fa fb ra rb cs 3 (n + 1) calls) kp mv cs 3 ((n + 1 : Nat) : Int) = view K mv fa fb ra rb cs 3 n calls := by
        unfold stepK
        rw [if_neg (by decide), if_neg (by decide), if_neg (by decide), if_pos rfl, if_pos hz, e1, Int.toNat_natCast, getD_of hcn]
        exact store_view h n calls c hcn
      have en : stepNx cs 3 ((n + 1 : Nat) : Int) = (n : Nat) := by unfold stepNx; rw [if_neg (by decide), if_pos rfl, if_pos hz, e1]
      dsimp only
      rw [ep, ek, en]
      exact ⟨n, calls, ⟨rfl, rfl, by omega, by simp; omega⟩, by omega, by omega, by simp [mu]⟩
/-- Behind m steps. -/
theorem jv_run (h : PairB K kp mv fa fb ra rb cs) (h16 : cs.length ≤ 16) (hb : ∀ y ∈ K.refuse, y < 12) : ∀ (m : Nat) (s : JS) (n : Nat) (calls : Int), JV K mv fa fb ra rb cs s n calls → calls + m < 100000 →
    ∃ n' calls', JV K mv fa fb ra rb cs (runJ kp mv cs m s) n' calls' ∧ calls ≤ calls' ∧ calls' ≤ calls + m ∧ (mu cs.length s.ph n calls ≤ m → overB (runJ kp mv cs m s).ph = true)
  | 0, s, n, calls, hs, _ => ⟨n, calls, hs, Int.le_refl _, by omega, fun hm => by
    obtain ⟨_, _, _, hp, _⟩ := hs
    unfold mu at hm
    have hov : s.ph = 4 ∨ s.ph = 5 := by
      split at hm
      · omega
      split at hm
      · omega
      split at hm
      · omega
      split at hm
      · omega
      · omega
    unfold overB runJ
    rcases hov with e | e <;> rw [e] <;> rfl⟩
  | m + 1, s, n, calls, hs, hc => by
    cases ho : overB s.ph
    · rw [runJ_next m ho]
      obtain ⟨n1, c1, h1, h2, h3, h4⟩ := jv_step h h16 hb hs ho (by omega)
      obtain ⟨n2, c2, g1, g2, g3, g4⟩ := jv_run h h16 hb m _ n1 c1 h1 (by omega)
      exact ⟨n2, c2, g1, by omega, by omega, fun hm => g4 (by omega)⟩
    · rw [runJ_over (m + 1) ho]
      exact ⟨n, calls, hs, Int.le_refl _, by omega, fun _ => ho⟩
theorem mu_le (len : Nat) (hl : len ≤ 16) {ph : Int} {n : Nat} {calls : Int} (hn : n ≤ len) (hc : 0 ≤ calls) : mu len ph n calls ≤ 60 := by
  unfold mu
  split
  · omega
  split
  · omega
  split
  · omega
  split
  · omega
  · omega
end
end Go.Proofs.Ytkkebpcclklmcaa
