/-
  Texts put together: WrLaw3, PairDraw.
-/
import Derived.Test.YtkkebpcclklmcaaGB41
/-
  A writer waits only while its page is protected: a plain law.
-/
set_option linter.unusedVariables false
set_option linter.unusedSimpArgs false
namespace Go.Proofs.Ytkkebpcclklmcaa
/-- The pages are not both mapped, and neither is protected: no step is taken, no writer waits. -/
def UInv (kp mv : Nat) (cs : List Int) (W0 : List (Nat × Int)) (t : IS) : Prop :=
  MOk t.s.k.m ∧ (∀ x ∈ t.s.k.refuse, 0 ≤ x) ∧ t.s.k.refuse.length ≤ 40 ∧ (0 ≤ t.s.k.calls ∧ t.s.k.calls ≤ 100000) ∧ t.s.ph = 0 ∧ t.s.nx = 0 ∧ ((pageEntry t.s.k.m.ents kp).m = 0 ∨ (pageEntry t.s.k.m.ents mv).m = 0) ∧ (pageEntry t.s.k.m.ents kp).m ≠ 1 ∧ (pageEntry t.s.k.m.ents mv).m ≠ 1 ∧
  t.ws.length = W0.length ∧ ∀ (q : Nat) (x : Nat × Int), W0[q]? = some x → ∃ w : Wr, t.ws[q]? = some w ∧ w.ad = (livePg kp mv cs x.1 : Int) * 16 + (x.1 : Nat) ∧ w.va = x.2 ∧ w.wt = 0
theorem uinv_kok {kp mv : Nat} {cs : List Int} {W0 : List (Nat × Int)} {t : IS} (h : UInv kp mv cs W0 t) : kernelOk t.s.k = true :=
  (kernelOk_iff _).2 ⟨h.2.1, h.2.2.2.1, h.2.2.1, h.1⟩
theorem uinv_dn {kp mv : Nat} {cs : List Int} {W0 : List (Nat × Int)} (hW : W0Ok W0) {t : IS} (h : UInv kp mv cs W0 t) {q : Nat} {x : Nat × Int} (hx : W0[q]? = some x) {w : Wr} (hw : t.ws[q]? = some w) : storeF t.s.k.m w.ad w.va ≠ 2 := by
  obtain ⟨-, -, -, -, -, -, -, hk1, hm1, -, hws⟩ := h
  obtain ⟨w', hw', had, hva, hwt⟩ := hws q x hx
  rw [hw] at hw'; cases hw'
  have hr := hW.rng x (List.mem_of_getElem? hx)
  have d1 : ((livePg kp mv cs x.1 : Int) * 16 + (x.1 : Nat)) / 16 = livePg kp mv cs x.1 := by omega
  have hm : (entA t.s.k.m w.ad).m ≠ 1 := by
    unfold entA
    rw [had, d1, if_neg (by omega)]
    unfold livePg
    split
    · exact hm1
    · exact hk1
  unfold storeF
  split
  · rw [if_neg (by simpa using hm)]
    split <;> simp
  · simp
theorem uinv_write {kp mv : Nat} {cs : List Int} {W0 : List (Nat × Int)} (hW : W0Ok W0) {t : IS} (h : UInv kp mv cs W0 t) {q : Nat} (hq : q < W0.length) : UInv kp mv cs W0 (wStep q t) := by
  obtain ⟨x, hx⟩ := getx hq
  obtain ⟨w, hw, had, hva, hwt⟩ := h.2.2.2.2.2.2.2.2.2.2 q x hx
  have eW : wAt t.ws q = w := getD_of hw
  have hkok := uinv_kok h
  have hF := uinv_dn hW h hx hw
  obtain ⟨h1, h2, h3, h4, h5, h6, h7, h8, h9, h10, h11⟩ := h
  have hwl := getx_lt hw
  unfold wStep
  rw [eW]
  obtain ⟨⟨k, ph, nx⟩, ws⟩ := t
  dsimp only at *
  have eX : (wrW k w).ad = w.ad ∧ (wrW k w).va = w.va ∧ (wrW k w).wt = w.wt := by
    unfold wrW
    split
    · exact ⟨rfl, rfl, rfl⟩
    split
    · rename_i h0; rw [beq_iff_eq] at h0; exact absurd h0 hF
    · exact ⟨rfl, rfl, rfl⟩
  have hrest : (ws.set q (wrW k w)).length = W0.length ∧ ∀ (p : Nat) (y : Nat × Int), W0[p]? = some y → ∃ w' : Wr, (ws.set q (wrW k w))[p]? = some w' ∧ w'.ad = (livePg kp mv cs y.1 : Int) * 16 + (y.1 : Nat) ∧ w'.va = y.2 ∧ w'.wt = 0 := by
    refine ⟨by rw [List.length_set]; exact h10, fun p y hy => ?_⟩
    by_cases e : q = p
    · subst e
      rw [hx] at hy; cases hy
      exact ⟨_, List.getElem?_set_self hwl, by rw [eX.1, had], by rw [eX.2.1, hva], by rw [eX.2.2, hwt]⟩
    · obtain ⟨w', g⟩ := h11 p y hy
      exact ⟨w', by rw [List.getElem?_set_ne e]; exact g.1, g.2⟩
  unfold wrK
  split
  · exact ⟨h1, h2, h3, h4, h5, h6, h7, h8, h9, hrest.1, hrest.2⟩
  split
  · exact ⟨h1, h2, h3, h4, h5, h6, h7, h8, h9, hrest.1, hrest.2⟩
  · refine ⟨store_ok h1 _ _, h2, h3, h4, h5, h6, ?_, ?_, ?_, hrest.1, hrest.2⟩
    · dsimp only; rw [store_ents]; exact h7
    · dsimp only; rw [store_ents]; exact h8
    · dsimp only; rw [store_ents]; exact h9
theorem uinv_job {kp mv : Nat} {cs : List Int} {W0 : List (Nat × Int)} {t : IS} (h : UInv kp mv cs W0 t) : jsStep kp mv cs t.s = t.s := by
  refine jsStep_not ?_
  obtain ⟨-, -, -, -, -, -, h7, -⟩ := h
  unfold jobMay mappedB
  rcases h7 with e | e <;> rw [e] <;> simp
theorem uinv_step {kp mv : Nat} {cs : List Int} {W0 : List (Nat × Int)} (hW : W0Ok W0) {t : IS} (x : Int) (h : UInv kp mv cs W0 t) : UInv kp mv cs W0 (ilStep kp mv cs x t) := by
  unfold ilStep
  split
  · rw [uinv_job h]; exact h
  split
  · rename_i hbt
    rw [between_iff] at hbt
    have hl := h.2.2.2.2.2.2.2.2.2.1
    exact uinv_write hW h (by omega)
  · exact h
theorem uinv_inter {kp mv : Nat} {cs : List Int} {W0 : List (Nat × Int)} (hW : W0Ok W0) (order : List Int) {t : IS} (h : UInv kp mv cs W0 t) : UInv kp mv cs W0 (interl kp mv cs order t) := by
  have key : ∀ m, UInv kp mv cs W0 (ilTo kp mv cs order m t) := by
    intro m
    induction m with
    | zero => exact h
    | succ m ih => rw [ilTo]; exact uinv_step hW _ ih
  unfold interl
  split
  · exact key _
  · exact h
/-- What the law of the waits asks of each writer. -/
def waitOk (kp mv : Nat) (cs : List Int) (t : IS) (w0 w : Wr) : Prop :=
  (0 < w.wt → w0.ad / 16 = (mv : Int)) ∧ (w.dn = false → w0.ad / 16 = (mv : Int) → (wrW t.s.k w).dn = !jobActive kp mv cs t.s.ph t.s.nx)
theorem live_div (kp mv : Nat) (cs : List Int) {i : Nat} (hi : i < 16) : ((livePg kp mv cs i : Int) * 16 + (i : Nat)) / 16 = livePg kp mv cs i := by omega
theorem waits_mapped {K : Ker} {kp mv fa fb : Nat} {ra rb cs : List Int} {W0 : List (Nat × Int)} (hW : W0Ok W0) {R0 : List Int} {t : IS} {n : Nat} {calls N : Int} (hN : 0 ≤ N ∧ N < 1000000) (hc : calls ≤ 100000) (h : WInv K kp mv fa fb ra rb cs W0 R0 t n calls N) :
    jobOk kp mv cs t.s.ph t.s.nx = true ∧ t.ws.length = W0.length ∧ ∀ (q : Nat) (x : Nat × Int), W0[q]? = some x → ∃ w, t.ws[q]? = some w ∧ waitOk kp mv cs t (wrOf kp mv cs x) w := by
  have hJ := h.2.2.1
  obtain ⟨-, hn, hnl, hp, -⟩ := hJ
  have hjo : jobOk kp mv cs t.s.ph t.s.nx = true := by
    unfold jobOk
    rw [h.1.plan, between_iff.2 hp, hn, between_iff.2 ⟨by omega, by omega⟩]; rfl
  have hact : jobActive kp mv cs t.s.ph t.s.nx = mid t.s.ph := by
    unfold jobActive
    rw [hjo, Bool.true_and]
    rcases (by omega : t.s.ph = 0 ∨ t.s.ph = 1 ∨ t.s.ph = 2 ∨ t.s.ph = 3 ∨ t.s.ph = 4 ∨ t.s.ph = 5) with e | e | e | e | e | e <;> rw [e] <;> rfl
  refine ⟨hjo, h.2.2.2.1, fun q x hx => ?_⟩
  obtain ⟨w, hw, had, hva, hdn, hwt, hpos⟩ := h.2.2.2.2 q x hx
  have hr := hW.rng x (List.mem_of_getElem? hx)
  obtain ⟨-, -, -, -, -, -, -, hd⟩ := winv_write hW hN hc h (getx_lt hx)
  have eW : wAt t.ws q = w := getD_of hw
  rw [eW, hx] at hd
  refine ⟨w, hw, fun hw0 => ?_, fun hf he => ?_⟩
  · show ((livePg kp mv cs x.1 : Int) * 16 + (x.1 : Nat)) / 16 = (mv : Int)
    rw [live_div kp mv cs hr.1]
    unfold livePg
    rw [if_pos (hpos hw0)]
  · have he' : ((livePg kp mv cs x.1 : Int) * 16 + (x.1 : Nat)) / 16 = (mv : Int) := he
    rw [live_div kp mv cs hr.1] at he'
    have hmem : (x.1 : Int) ∈ cs := by
      unfold livePg at he'
      split at he'
      · assumption
      · have := h.1.np; omega
    rw [hact]
    rw [hf] at hd
    cases hm : mid t.s.ph
    · rw [hm] at hd
      exact hd.2 (.inr (by simp))
    · rw [hm] at hd
      cases hq : (wrW t.s.k w).dn
      · rfl
      · rcases hd.1 hq with h0 | h0
        · cases h0
        · exact absurd ⟨⟨x.1, rfl, hmem⟩, rfl⟩ h0
theorem waits_unmapped {kp mv : Nat} {cs : List Int} {W0 : List (Nat × Int)} (hW : W0Ok W0) (hplan : planOk kp mv cs = true) {t : IS} (h : UInv kp mv cs W0 t) :
    jobOk kp mv cs t.s.ph t.s.nx = true ∧ t.ws.length = W0.length ∧ ∀ (q : Nat) (x : Nat × Int), W0[q]? = some x → ∃ w, t.ws[q]? = some w ∧ waitOk kp mv cs t (wrOf kp mv cs x) w := by
  have hkok := uinv_kok h
  have hF := fun q x (hx : W0[q]? = some x) w (hw : t.ws[q]? = some w) => uinv_dn hW h hx hw
  obtain ⟨h1, h2, h3, h4, h5, h6, h7, h8, h9, h10, h11⟩ := h
  rw [h5, h6]
  have hjo : jobOk kp mv cs 0 0 = true := by
    unfold jobOk
    rw [hplan, between_iff.2 (by decide), between_iff.2 ⟨by omega, by omega⟩]; rfl
  refine ⟨hjo, h10, fun q x hx => ?_⟩
  obtain ⟨w, hw, had, hva, hwt⟩ := h11 q x hx
  refine ⟨w, hw, fun h0 => by omega, fun hf _ => ?_⟩
  have : jobActive kp mv cs t.s.ph t.s.nx = false := by
    rw [h5, h6]; unfold jobActive; rw [hjo]; rfl
  rw [this]
  unfold wrW
  rw [hf, hkok, if_neg (by simp), if_neg (by simpa using hF q x hx w hw)]
  rfl
end Go.Proofs.Ytkkebpcclklmcaa
/-
  A drawn kernel with two pages whose live cells do not overlap: plain laws.
-/
set_option linter.unusedVariables false
set_option linter.unusedSimpArgs false
namespace Go.Proofs.Ytkkebpcclklmcaa
/-- What holds of the kernel at every moment of the draw. -/
structure DInv (K : Ker) (kp mv : Nat) (cs : List Int) : Prop where
  ok : MOk K.m
  ref : ∀ x ∈ K.refuse, 0 ≤ x ∧ x < 12
  rl : K.refuse.length ≤ 40
  calls : 0 ≤ K.calls ∧ K.calls ≤ 1000
  only : ∀ (i : Nat) (e : Ent), K.m.ents[i]? = some e → e.m ≠ 0 → e.m = 2 ∧ (i = kp ∨ i = mv)
  sep : ∀ (i j : Nat) (e e' : Ent), K.m.ents[i]? = some e → K.m.ents[j]? = some e' → e.m ≠ 0 → e'.m ≠ 0 → e.f = e'.f → i = j
  za : ∀ (e : Ent) (r : List Int), K.m.ents[kp]? = some e → e.m ≠ 0 → K.m.f.cells[e.f.toNat]? = some r → ∀ c ∈ cs, r.getD c.toNat 0 = 0
  zb : ∀ (e : Ent) (r : List Int), K.m.ents[mv]? = some e → e.m ≠ 0 → K.m.f.cells[e.f.toNat]? = some r → ∀ j : Nat, (j : Int) ∉ cs → r.getD j 0 = 0
  cok : CsOk cs
  plan : planOk kp mv cs = true
  c16 : cs.length ≤ 16
theorem newK_dinv {kp mv : Nat} {cs rf : List Int} (hr : ∀ x ∈ rf, 0 ≤ x ∧ x < 12) (hl : rf.length ≤ 40) (hc : CsOk cs) (hp : planOk kp mv cs = true) (h16 : cs.length ≤ 16) : DInv (newK 4 4 rf) kp mv cs := by
  have none : ∀ (i : Nat) (e : Ent), (newK 4 4 rf).m.ents[i]? = some e → e.m = 0 := by
    intro i e he
    unfold newK at he
    dsimp only at he
    rw [List.getElem?_replicate] at he
    split at he
    · cases he; rfl
    · cases he
  exact ⟨newK_ok (by omega) (by omega), hr, hl, by unfold newK; simp, fun i e he hm => absurd (none i e he) hm, fun i j e e' he _ hm _ _ => absurd (none i e he) hm, fun e r he hm _ => absurd (none _ e he) hm, fun e r he hm _ => absurd (none _ e he) hm, hc, hp, h16⟩
section
variable {K : Ker} {kp mv : Nat} {cs : List Int}
theorem mapNew_dinv (h : DInv K kp mv cs) (hc : K.calls ≤ 999) {p : Nat} (hp : p = kp ∨ p = mv) : DInv (mapNewS K p) kp mv cs ∧ (mapNewS K p).calls = K.calls + 1 := by
  have h1 := mapNew_ok h.ok p
  refine ⟨?_, h1.2.2⟩
  have hno := h1.1
  unfold mapNewS at hno ⊢
  split
  · rename_i hb
    rw [if_pos hb] at hno
    unfold newB at hb
    simp only [Bool.and_eq_true, decide_eq_true_eq, Bool.not_eq_true', between_iff] at hb
    obtain ⟨⟨⟨-, hbt⟩, hmp⟩, h0⟩ := hb
    obtain ⟨f, hf, hu⟩ := freeIx_lt h0
    have hcl : 0 ≤ K.calls := h.calls.1
    rw [hf] at hno ⊢
    simp only [setEnt, withF, Int.toNat_natCast] at hno ⊢
    have notf : ∀ (i : Nat) (e : Ent), K.m.ents[i]? = some e → e.m ≠ 0 → e.f ≠ f := by
      intro i e he hm hf2
      have := (h.ok.use f false hu).2 ⟨i, e, he, hm, hf2⟩
      cases this
    refine ⟨hno, h.ref, h.rl, ⟨by dsimp only; omega, by dsimp only; omega⟩, ?_, ?_, ?_, ?_, h.cok, h.plan, h.c16⟩
    · intro i e he hm
      dsimp only at he
      rcases set_at he with ⟨rfl, rfl⟩ | ⟨_, he⟩
      · exact ⟨rfl, hp⟩
      · exact h.only i e he hm
    · intro i j e e' he he' hm hm' hff
      dsimp only at he he'
      rcases set_at he with ⟨rfl, rfl⟩ | ⟨hi, he2⟩
      · rcases set_at he' with ⟨rfl, rfl⟩ | ⟨hj, he2'⟩
        · rfl
        · exact absurd hff.symm (notf j e' he2' hm')
      · rcases set_at he' with ⟨rfl, rfl⟩ | ⟨hj, he2'⟩
        · exact absurd hff (notf i e he2 hm)
        · exact h.sep i j e e' he2 he2' hm hm' hff
    · intro e r he hm hr c hcm
      dsimp only at he hr
      rcases set_at he with ⟨_, rfl⟩ | ⟨_, he⟩
      · dsimp only at hr
        rw [Int.toNat_natCast] at hr
        exact unused_zero h.ok hu hr _
      · exact h.za e r he hm hr c hcm
    · intro e r he hm hr j hj
      dsimp only at he hr
      rcases set_at he with ⟨_, rfl⟩ | ⟨_, he⟩
      · dsimp only at hr
        rw [Int.toNat_natCast] at hr
        exact unused_zero h.ok hu hr _
      · exact h.zb e r he hm hr j hj
  · have hcl : 0 ≤ K.calls := h.calls.1
    exact ⟨h.ok, h.ref, h.rl, ⟨by dsimp only; omega, by dsimp only; omega⟩, h.only, h.sep, h.za, h.zb, h.cok, h.plan, h.c16⟩
/-- A live cell is written. -/
theorem store_dinv (h : DInv K kp mv cs) {i : Nat} (hi : i < 16) (v : Int) : DInv ⟨storeM K.m ((livePg kp mv cs i : Int) * 16 + i) v, K.calls, K.refuse⟩ kp mv cs := by
  have hok := store_ok h.ok ((livePg kp mv cs i : Int) * 16 + i) v
  have hen := store_ents K.m ((livePg kp mv cs i : Int) * 16 + i) v
  have d1 : ((livePg kp mv cs i : Int) * 16 + i) / 16 = livePg kp mv cs i := by omega
  have d2 : ((livePg kp mv cs i : Int) * 16 + i) % 16 = i := by omega
  -- the row of another page is as it was; of the page itself all cells but i
  have hrow : ∀ (p : Nat) (e : Ent) (r : List Int), K.m.ents[p]? = some e → e.m ≠ 0 → (storeM K.m ((livePg kp mv cs i : Int) * 16 + i) v).f.cells[e.f.toNat]? = some r → ∃ r0, K.m.f.cells[e.f.toNat]? = some r0 ∧ ∀ j : Nat, (p = livePg kp mv cs i → j ≠ i) → r.getD j 0 = r0.getD j 0 := by
    intro p e r he hm hr
    unfold storeM at hr
    split at hr
    · rw [d1, d2] at hr
      dsimp only at hr
      rcases getElem?_set_cases hr with ⟨hfr, rfl⟩ | ⟨_, hr⟩
      · rename_i hs0
        have hmm : (pageEntry K.m.ents (livePg kp mv cs i)).m ≠ 0 := by
          rw [beq_iff_eq] at hs0
          unfold storeF at hs0
          split at hs0
          · rename_i hl
            unfold loadOkB mappedB at hl
            rw [d1] at hl
            simp only [Bool.and_eq_true, bne_iff_ne, ne_eq] at hl
            exact hl.2
          · simp at hs0
        obtain ⟨k, hk, hke⟩ := pageEntry_m hmm
        have hkk : livePg kp mv cs i = k := by omega
        have e1 := (h.ok.ent p e he).2.2.1
        have e2 := (h.ok.ent k _ hke).2.2.1
        have hpk : p = livePg kp mv cs i := by
          rw [hkk]
          exact h.sep p k e _ he hke hm hmm (by omega)
        obtain ⟨r0, hr0⟩ := getx (xs := K.m.f.cells) (k := e.f.toNat) (by have := getx_lt hr; rwa [List.length_set] at this)
        refine ⟨r0, hr0, fun j hj => ?_⟩
        rw [← hfr, getD_of hr0, Int.toNat_natCast, getD_set_ne (fun x => hj hpk x.symm)]
      · exact ⟨r, hr, fun j _ => rfl⟩
    · exact ⟨r, hr, fun j _ => rfl⟩
  refine ⟨hok, h.ref, h.rl, h.calls, ?_, ?_, ?_, ?_, h.cok, h.plan, h.c16⟩
  · intro p e he; dsimp only at he; rw [hen] at he; exact h.only p e he
  · intro p q e e' he he'; dsimp only at he he'; rw [hen] at he he'; exact h.sep p q e e' he he'
  · intro e r he hm hr c hc
    dsimp only at he hr
    rw [hen] at he
    obtain ⟨r0, h1, h2⟩ := hrow kp e r he hm hr
    have hc0 := (h.cok.rng c hc).1
    rw [h2 c.toNat (fun hk hx => ?_)]
    · exact h.za e r0 he hm h1 c hc
    · have hic : (i : Int) ∈ cs := by rw [← hx, Int.toNat_of_nonneg hc0]; exact hc
      unfold livePg at hk
      rw [if_pos hic] at hk
      have := h.plan
      unfold planOk at this
      simp only [Bool.and_eq_true, bne_iff_ne, ne_eq] at this
      omega
  · intro e r he hm hr j hj
    dsimp only at he hr
    rw [hen] at he
    obtain ⟨r0, h1, h2⟩ := hrow mv e r he hm hr
    rw [h2 j (fun hk hx => ?_)]
    · exact h.zb e r0 he hm h1 j hj
    · unfold livePg at hk
      rw [if_neg (by rw [← hx]; exact hj)] at hk
      have := h.plan
      unfold planOk at this
      simp only [Bool.and_eq_true, bne_iff_ne, ne_eq] at this
      omega
/-- Both pages are mapped: a base for the job. -/
theorem dinv_pair (h : DInv K kp mv cs) (h1 : (pageEntry K.m.ents kp).m ≠ 0) (h2 : (pageEntry K.m.ents mv).m ≠ 0) : ∃ fa fb ra rb, PairB K kp mv fa fb ra rb cs := by
  obtain ⟨k, hk, hke⟩ := pageEntry_m h1
  obtain ⟨m, hm, hme⟩ := pageEntry_m h2
  obtain rfl : kp = k := by omega
  obtain rfl : mv = m := by omega
  generalize pageEntry K.m.ents kp = e at *
  generalize pageEntry K.m.ents mv = e' at *
  obtain ⟨em, ef⟩ := e
  obtain ⟨em', ef'⟩ := e'
  have o1 := h.only _ _ hke h1
  have o2 := h.only _ _ hme h2
  have r1 := h.ok.ent _ _ hke
  have r2 := h.ok.ent _ _ hme
  dsimp only at *
  obtain ⟨fa, rfl⟩ := Int.eq_ofNat_of_zero_le r1.2.2.1
  obtain ⟨fb, rfl⟩ := Int.eq_ofNat_of_zero_le r2.2.2.1
  obtain ⟨rfl, -⟩ := o1
  obtain ⟨rfl, -⟩ := o2
  have hlf := r1.2.2.2.2 (by decide)
  have hlf2 := r2.2.2.2.2 (by decide)
  have hul := h.ok.u1
  obtain ⟨ra, hra⟩ := getx (xs := K.m.f.cells) (k := fa) (by omega)
  obtain ⟨rb, hrb⟩ := getx (xs := K.m.f.cells) (k := fb) (by omega)
  have np : kp ≠ mv := by
    have := h.plan
    unfold planOk at this
    simp only [Bool.and_eq_true, bne_iff_ne, ne_eq] at this
    omega
  refine ⟨fa, fb, ra, rb, h.ok, fun x hx => (h.ref x hx).1, h.rl, hke, hme, ?_, ?_, ?_, hra, hrb, ?_, ?_, h.cok, h.plan⟩
  · intro e
    exact np (h.sep kp mv _ _ hke hme (by simp) (by simp) (by dsimp only; omega))
  · intro i e he hm hf
    exact h.sep i kp e _ he hke hm (by simp) hf
  · intro i e he hm hf
    exact h.sep i mv e _ he hme hm (by simp) hf
  · exact fun c hc => h.za _ ra hke (by simp) (by dsimp only; rw [Int.toNat_natCast]; exact hra) c hc
  · exact fun j hj => h.zb _ rb hme (by simp) (by dsimp only; rw [Int.toNat_natCast]; exact hrb) j hj
theorem entry_mode (h : DInv K kp mv cs) (p : Int) : (pageEntry K.m.ents p).m = 0 ∨ (pageEntry K.m.ents p).m = 2 := by
  by_cases h0 : (pageEntry K.m.ents p).m = 0
  · exact .inl h0
  · obtain ⟨k, hk, hke⟩ := pageEntry_m h0
    exact .inr (h.only k _ hke h0).1
theorem dinv_uinv (h : DInv K kp mv cs) (h0 : (pageEntry K.m.ents kp).m = 0 ∨ (pageEntry K.m.ents mv).m = 0) (W0 : List (Nat × Int)) : UInv kp mv cs W0 ⟨⟨K, 0, 0⟩, W0.map (wrOf kp mv cs)⟩ := by
  have h1 := entry_mode h kp
  have h2 := entry_mode h mv
  refine ⟨h.ok, fun x hx => (h.ref x hx).1, h.rl, ⟨h.calls.1, by have := h.calls.2; dsimp only; omega⟩, rfl, rfl, h0, by dsimp only; omega, by dsimp only; omega, by simp, fun q x hx => ⟨wrOf kp mv cs x, by rw [List.getElem?_map, hx]; rfl, rfl, rfl, rfl⟩⟩
end
end Go.Proofs.Ytkkebpcclklmcaa
