/-
  Texts put together: WrLaw2.
-/
import Derived.Test.YtkkebpcclklmcaaGB40
/-
  No write to a live cell is lost: a plain law.
-/
set_option linter.unusedVariables false
set_option linter.unusedSimpArgs false
namespace Go.Proofs.Ytkkebpcclklmcaa
open Go.RowKit
section
variable {K : Ker} {kp mv fa fb : Nat} {ra rb cs : List Int}
def wrOf (kp mv : Nat) (cs : List Int) (x : Nat × Int) : Wr := ⟨(livePg kp mv cs x.1 : Int) * 16 + (x.1 : Nat), x.2, false, 0⟩
structure W0Ok (W0 : List (Nat × Int)) : Prop where
  rng : ∀ x ∈ W0, x.1 < 16 ∧ 0 ≤ x.2 ∧ x.2 ≤ 999
  nd : ∀ (p q : Nat) (x y : Nat × Int), W0[p]? = some x → W0[q]? = some y → x.1 = y.1 → p = q
/-- What holds of the writers at each step; N bounds the waits. -/
def WsOk (kp mv : Nat) (ra rb cs : List Int) (W0 : List (Nat × Int)) (ws : List Wr) (N : Int) : Prop :=
  ws.length = W0.length ∧ ∀ (q : Nat) (x : Nat × Int), W0[q]? = some x → ∃ w, ws[q]? = some w ∧ w.ad = (livePg kp mv cs x.1 : Int) * 16 + (x.1 : Nat) ∧ w.va = x.2 ∧ (w.dn = true → liveV ra rb cs x.1 = x.2) ∧ (0 ≤ w.wt ∧ w.wt ≤ N) ∧ (0 < w.wt → (x.1 : Int) ∈ cs)
def WInv (K : Ker) (kp mv fa fb : Nat) (ra rb cs : List Int) (W0 : List (Nat × Int)) (R0 : List Int) (t : IS) (n : Nat) (calls N : Int) : Prop :=
  PairB K kp mv fa fb ra rb cs ∧ K.refuse = R0 ∧ JV K mv fa fb ra rb cs t.s n calls ∧ WsOk kp mv ra rb cs W0 t.ws N
theorem wsOk_start {W0 : List (Nat × Int)} : WsOk kp mv ra rb cs W0 (W0.map (wrOf kp mv cs)) 0 := by
  refine ⟨by simp, fun q x hx => ⟨wrOf kp mv cs x, by rw [List.getElem?_map, hx]; rfl, rfl, rfl, fun h => ?_, ⟨Int.le_refl _, Int.le_refl _⟩, fun h => ?_⟩⟩
  · cases h
  · exact absurd h (by simp [wrOf])
theorem WsOk.more {W0 : List (Nat × Int)} {ws : List Wr} {N N' : Int} (h : WsOk kp mv ra rb cs W0 ws N) (hN : N ≤ N') : WsOk kp mv ra rb cs W0 ws N' :=
  ⟨h.1, fun q x hx => by
    obtain ⟨w, h1, h2, h3, h4, h5, h6⟩ := h.2 q x hx
    exact ⟨w, h1, h2, h3, h4, ⟨h5.1, by omega⟩, h6⟩⟩
theorem wrap_small {x : Int} (h : 0 ≤ x ∧ x ≤ 1000000) : wrap64 x = x := by first | exact IntWalk.wrap64_in _ ⟨by omega, by omega⟩ | (unfold wrap64; omega)
theorem live_put_self (h : PairB K kp mv fa fb ra rb cs) {i : Nat} {v : Int} (hi : i < 16) : liveV (putA ra cs i v) (putB rb cs i v) cs i = v := by
  unfold liveV putA putB
  by_cases hm : (i : Int) ∈ cs
  · rw [if_pos hm, if_pos hm]; exact getD_set_self (by rw [h.lb]; exact hi)
  · rw [if_neg hm, if_neg hm]; exact getD_set_self (by rw [h.la]; exact hi)
theorem live_put_ne {i j : Nat} {v : Int} (hij : i ≠ j) : liveV (putA ra cs i v) (putB rb cs i v) cs j = liveV ra rb cs j := by
  unfold liveV putA putB
  by_cases hm : (i : Int) ∈ cs
  · rw [if_pos hm, if_pos hm]
    by_cases hj : (j : Int) ∈ cs
    · rw [if_pos hj, if_pos hj]; exact getD_set_ne hij
    · rw [if_neg hj, if_neg hj]
  · rw [if_neg hm, if_neg hm]
    by_cases hj : (j : Int) ∈ cs
    · rw [if_pos hj, if_pos hj]
    · rw [if_neg hj, if_neg hj]; exact getD_set_ne hij
theorem jv_mid {s : JS} {n : Nat} {calls : Int} (hs : JV K mv fa fb ra rb cs s n calls) : mid s.ph = false → s.ph = 4 ∨ n = 0 := by
  obtain ⟨_, _, _, hp, h0, h5, _⟩ := hs
  intro hm
  unfold mid at hm
  simp only [Bool.or_eq_false_iff, beq_eq_false_iff_ne, ne_eq] at hm
  rcases (by omega : s.ph = 0 ∨ s.ph = 4 ∨ s.ph = 5) with h | h | h
  · exact .inr (h0 h)
  · exact .inl h
  · exact .inr (h5 h)
/-- A writer takes a step. -/
theorem winv_write {W0 : List (Nat × Int)} (hW : W0Ok W0) {R0 : List Int} {t : IS} {n : Nat} {calls N : Int} (hN : 0 ≤ N ∧ N < 1000000) (hc : calls ≤ 100000) (h : WInv K kp mv fa fb ra rb cs W0 R0 t n calls N) {q : Nat} (hq : q < W0.length) :
    ∃ K' ra' rb', WInv K' kp mv fa fb ra' rb' cs W0 R0 (wStep q t) n calls (N + 1) ∧ (wStep q t).s.ph = t.s.ph ∧
      (∀ (p : Nat) (w : Wr), t.ws[p]? = some w → w.dn = true → ∃ w' : Wr, (wStep q t).ws[p]? = some w' ∧ w'.dn = true) ∧ (mid t.s.ph = false → ∃ w' : Wr, (wStep q t).ws[q]? = some w' ∧ w'.dn = true) ∧
      ((wrW t.s.k (wAt t.ws q)).dn = true ↔ ((wAt t.ws q).dn = true ∨ ¬ ((∃ i : Nat, W0[q]?.map Prod.fst = some i ∧ (i : Int) ∈ cs) ∧ mid t.s.ph = true))) := by
  obtain ⟨hP, hR, hJ, hWs⟩ := h
  obtain ⟨⟨i, v⟩, hx⟩ := getx hq
  obtain ⟨w, hw, had, hva, hdn, hwt, hpos⟩ := hWs.2 q _ hx
  dsimp only at had hva hdn hpos
  have hwl := getx_lt hw
  have eW : wAt t.ws q = w := getD_of hw
  have hr := hW.rng _ (List.mem_of_getElem? hx)
  dsimp only at hr
  obtain ⟨⟨k, ph, nx⟩, ws⟩ := t
  have hJ0 := hJ
  obtain ⟨hk, hn, hnl, hp, h0, h5, h2, h4, hc0⟩ := hJ
  dsimp only at hk hn hp h0 h5 h2 h4 hw hwl eW hWs
  subst hk
  have hkok := view_kok hP ph n calls ⟨hc0, hc⟩
  have hex : (∃ j : Nat, W0[q]?.map Prod.fst = some j ∧ (j : Int) ∈ cs) ↔ (i : Int) ∈ cs := by
    rw [hx]
    simp
  unfold wStep
  dsimp only
  rw [eW, hex]
  obtain ⟨ad, va, dn, wt⟩ := w
  dsimp only at had hva hdn hwt hpos
  subst had hva
  cases dn
  · have S := view_store hP (n := n) (calls := calls) (jv_mid hJ0) hr.1 hr.2
    by_cases hcond : (i : Int) ∈ cs ∧ mid ph = true
    · rw [if_pos hcond] at S
      have eK : wrK (view K mv fa fb ra rb cs ph n calls) ⟨(livePg kp mv cs i : Int) * 16 + i, va, false, wt⟩ = view K mv fa fb ra rb cs ph n calls := by
        unfold wrK
        dsimp only
        rw [hkok, S.1]; rfl
      have eX : wrW (view K mv fa fb ra rb cs ph n calls) ⟨(livePg kp mv cs i : Int) * 16 + i, va, false, wt⟩ = ⟨(livePg kp mv cs i : Int) * 16 + i, va, false, wt + 1⟩ := by
        unfold wrW
        dsimp only
        rw [hkok, S.1, wrap_small (by omega)]; rfl
      rw [eK, eX]
      refine ⟨K, ra, rb, ⟨hP, hR, hJ0, by rw [List.length_set]; exact hWs.1, fun p x hp' => ?_⟩, rfl, ?_, ?_, ?_⟩
      · by_cases e : q = p
        · subst e
          rw [hx] at hp'; cases hp'
          exact ⟨_, List.getElem?_set_self hwl, rfl, rfl, (fun h => by cases h), ⟨by dsimp only; omega, by dsimp only; omega⟩, fun _ => hcond.1⟩
        · obtain ⟨w, g1, g2, g3, g4, g5, g6⟩ := hWs.2 p x hp'
          exact ⟨w, by rw [List.getElem?_set_ne e]; exact g1, g2, g3, g4, ⟨g5.1, by omega⟩, g6⟩
      · intro p w' hp' hd
        by_cases e : q = p
        · subst e; rw [hw] at hp'; cases hp'; cases hd
        · exact ⟨w', by rw [List.getElem?_set_ne e]; exact hp', hd⟩
      · intro hm; rw [hcond.2] at hm; cases hm
      · simp [hcond]
    · rw [if_neg hcond] at S
      have S2 := S.2 hcond
      have eK : wrK (view K mv fa fb ra rb cs ph n calls) ⟨(livePg kp mv cs i : Int) * 16 + i, va, false, wt⟩ = view (putK K fa fb cs i va) mv fa fb (putA ra cs i va) (putB rb cs i va) cs ph n calls := by
        rw [← S2]
        unfold wrK
        dsimp only
        rw [hkok, S.1]; rfl
      have eX : wrW (view K mv fa fb ra rb cs ph n calls) ⟨(livePg kp mv cs i : Int) * 16 + i, va, false, wt⟩ = ⟨(livePg kp mv cs i : Int) * 16 + i, va, true, wt⟩ := by
        unfold wrW
        dsimp only
        rw [hkok, S.1]; rfl
      rw [eK, eX]
      refine ⟨putK K fa fb cs i va, putA ra cs i va, putB rb cs i va, ⟨put_pair hP hr.2, hR, ⟨rfl, hn, hnl, hp, h0, h5, h2, h4, hc0⟩, by rw [List.length_set]; exact hWs.1, fun p x hp' => ?_⟩, rfl, ?_, ?_, ?_⟩
      · by_cases e : q = p
        · subst e
          rw [hx] at hp'; cases hp'
          exact ⟨_, List.getElem?_set_self hwl, rfl, rfl, fun _ => live_put_self hP hr.1, ⟨hwt.1, by dsimp only; omega⟩, hpos⟩
        · obtain ⟨w, g1, g2, g3, g4, g5, g6⟩ := hWs.2 p x hp'
          have hne : i ≠ x.1 := fun e2 => e (hW.nd q p _ x hx hp' e2)
          exact ⟨w, by rw [List.getElem?_set_ne e]; exact g1, g2, g3, fun hd => by rw [live_put_ne hne]; exact g4 hd, ⟨g5.1, by omega⟩, g6⟩
      · intro p w' hp' hd
        by_cases e : q = p
        · subst e; exact ⟨_, List.getElem?_set_self hwl, rfl⟩
        · exact ⟨w', by rw [List.getElem?_set_ne e]; exact hp', hd⟩
      · intro _; exact ⟨_, List.getElem?_set_self hwl, rfl⟩
      · simp only [true_iff]; exact .inr hcond
  · have eK : wrK (view K mv fa fb ra rb cs ph n calls) ⟨(livePg kp mv cs i : Int) * 16 + i, va, true, wt⟩ = view K mv fa fb ra rb cs ph n calls := rfl
    have eX : wrW (view K mv fa fb ra rb cs ph n calls) ⟨(livePg kp mv cs i : Int) * 16 + i, va, true, wt⟩ = ⟨(livePg kp mv cs i : Int) * 16 + i, va, true, wt⟩ := rfl
    have eS : ws.set q ⟨(livePg kp mv cs i : Int) * 16 + i, va, true, wt⟩ = ws := set_getElem?_self hw
    rw [eK, eX, eS]
    exact ⟨K, ra, rb, ⟨hP, hR, hJ0, hWs.more (by omega)⟩, rfl, fun p w' hp' hd => ⟨w', hp', hd⟩, fun _ => ⟨_, hw, rfl⟩, by simp⟩
theorem step5 {K : Ker} {kp mv : Int} {cs : List Int} {n : Int} : stepK K kp mv cs 5 n = K ∧ stepPh K kp mv cs 5 n = 5 ∧ stepNx cs 5 n = n := by
  unfold stepK stepPh stepNx
  rw [if_neg (by decide), if_neg (by decide), if_neg (by decide), if_neg (by decide), if_neg (by decide), if_neg (by decide), if_neg (by decide), if_neg (by decide), if_neg (by decide), if_neg (by decide)]
  exact ⟨rfl, rfl, rfl⟩
/-- The job takes a step. -/
theorem winv_job {W0 : List (Nat × Int)} {R0 : List Int} (h16 : cs.length ≤ 16) (hb : ∀ y ∈ R0, y < 12) {t : IS} {n : Nat} {calls N : Int} (hc : calls < 100000) (h : WInv K kp mv fa fb ra rb cs W0 R0 t n calls N) :
    ∃ n' calls', WInv K kp mv fa fb ra rb cs W0 R0 ⟨jsStep kp mv cs t.s, t.ws⟩ n' calls' N ∧ calls ≤ calls' ∧ calls' ≤ calls + 1 := by
  obtain ⟨hP, hR, hJ, hWs⟩ := h
  cases ho : overB t.s.ph
  · obtain ⟨n', c', g1, g2, g3, _⟩ := jv_step hP h16 (by rw [hR]; exact hb) hJ ho hc
    exact ⟨n', c', ⟨hP, hR, g1, hWs⟩, g2, g3⟩
  · refine ⟨n, calls, ⟨hP, hR, ?_, hWs⟩, Int.le_refl _, by omega⟩
    unfold overB at ho
    rw [Bool.or_eq_true, beq_iff_eq, beq_iff_eq] at ho
    obtain ⟨⟨k, ph, nx⟩, ws⟩ := t
    obtain ⟨hk, hn, hnl, hp, h0, h5, h2, h4, hc0⟩ := hJ
    dsimp only at hk hn hp h0 h5 h2 h4 ho ⊢
    subst hk hn
    rcases ho with rfl | rfl
    · rw [jsStep_not (s := ⟨view K mv fa fb ra rb cs 4 n calls, 4, (n : Int)⟩) (view_stop (n := n) (calls := calls) (nx := (n : Int)) hP)]
      exact ⟨rfl, rfl, hnl, hp, h0, h5, h2, h4, hc0⟩
    · rw [jsStep_may (s := ⟨view K mv fa fb ra rb cs 5 n calls, 5, (n : Int)⟩) (view_may hP (by decide) hp hnl ⟨hc0, hc⟩)]
      dsimp only
      have e5 := step5 (K := view K mv fa fb ra rb cs 5 n calls) (kp := (kp : Int)) (mv := (mv : Int)) (cs := cs) (n := (n : Int))
      rw [e5.1, e5.2.1, e5.2.2]
      exact ⟨rfl, rfl, hnl, hp, h0, h5, h2, h4, hc0⟩
theorem winv_step {W0 : List (Nat × Int)} (hW : W0Ok W0) {R0 : List Int} (h16 : cs.length ≤ 16) (hb : ∀ y ∈ R0, y < 12) {t : IS} {n : Nat} {calls N : Int} (hN : 0 ≤ N ∧ N < 1000000) (hc : calls < 100000) (x : Int) (h : WInv K kp mv fa fb ra rb cs W0 R0 t n calls N) :
    ∃ K' ra' rb' n' calls', WInv K' kp mv fa fb ra' rb' cs W0 R0 (ilStep kp mv cs x t) n' calls' (N + 1) ∧ calls ≤ calls' ∧ calls' ≤ calls + 1 := by
  unfold ilStep
  split
  · obtain ⟨n', c', g1, g2, g3⟩ := winv_job h16 hb hc h
    exact ⟨K, ra, rb, n', c', ⟨g1.1, g1.2.1, g1.2.2.1, g1.2.2.2.more (by omega)⟩, g2, g3⟩
  split
  · rename_i hbt
    rw [between_iff] at hbt
    have hl := h.2.2.2.1
    obtain ⟨K', ra', rb', g1, _⟩ := winv_write hW hN (by omega) h (q := x.toNat) (by omega)
    exact ⟨K', ra', rb', n, calls, g1, Int.le_refl _, by omega⟩
  · exact ⟨K, ra, rb, n, calls, ⟨h.1, h.2.1, h.2.2.1, h.2.2.2.more (by omega)⟩, Int.le_refl _, by omega⟩
theorem winv_to {W0 : List (Nat × Int)} (hW : W0Ok W0) {R0 : List Int} (h16 : cs.length ≤ 16) (hb : ∀ y ∈ R0, y < 12) (order : List Int) {t : IS} {n : Nat} {calls : Int} (hc : calls ≤ 1000) (h : WInv K kp mv fa fb ra rb cs W0 R0 t n calls 0) : ∀ m : Nat, m ≤ 1000 →
    ∃ K' ra' rb' n' calls', WInv K' kp mv fa fb ra' rb' cs W0 R0 (ilTo kp mv cs order m t) n' calls' m ∧ calls' ≤ calls + m
  | 0, _ => ⟨K, ra, rb, n, calls, h, by omega⟩
  | m + 1, hm => by
    obtain ⟨K1, ra1, rb1, n1, c1, g1, g2⟩ := winv_to hW h16 hb order hc h m (by omega)
    obtain ⟨K2, ra2, rb2, n2, c2, g3, g4, g5⟩ := winv_step hW h16 hb (N := m) (by omega) (by omega) (order.getD m 0) g1
    exact ⟨K2, ra2, rb2, n2, c2, by rw [ilTo]; exact_mod_cast g3, by omega⟩
theorem winv_inter {W0 : List (Nat × Int)} (hW : W0Ok W0) {R0 : List Int} (h16 : cs.length ≤ 16) (hb : ∀ y ∈ R0, y < 12) (order : List Int) {t : IS} {n : Nat} {calls : Int} (hc : calls ≤ 1000) (h : WInv K kp mv fa fb ra rb cs W0 R0 t n calls 0) :
    ∃ K' ra' rb' n' calls', WInv K' kp mv fa fb ra' rb' cs W0 R0 (interl kp mv cs order t) n' calls' 200 ∧ calls' ≤ calls + 200 := by
  unfold interl
  split
  · obtain ⟨K1, ra1, rb1, n1, c1, g1, g2⟩ := winv_to hW h16 hb order hc h order.length (by omega)
    exact ⟨K1, ra1, rb1, n1, c1, ⟨g1.1, g1.2.1, g1.2.2.1, g1.2.2.2.more (by omega)⟩, by omega⟩
  · exact ⟨K, ra, rb, n, calls, ⟨h.1, h.2.1, h.2.2.1, h.2.2.2.more (by omega)⟩, by omega⟩
theorem winv_fin {W0 : List (Nat × Int)} (hW : W0Ok W0) {R0 : List Int} {t : IS} {n : Nat} {calls N : Int} (hN : 0 ≤ N ∧ N ≤ 1000) (hc : calls ≤ 100000) (hm : mid t.s.ph = false) (h : WInv K kp mv fa fb ra rb cs W0 R0 t n calls N) : ∀ m : Nat, m ≤ W0.length → m ≤ 1000 →
    ∃ K' ra' rb', WInv K' kp mv fa fb ra' rb' cs W0 R0 (finTo m t) n calls (N + m) ∧ (finTo m t).s.ph = t.s.ph ∧ ∀ p, p < m → ∃ w, (finTo m t).ws[p]? = some w ∧ w.dn = true
  | 0, _, _ => ⟨K, ra, rb, by rw [show N + ((0 : Nat) : Int) = N by omega]; exact h, rfl, fun p hp => absurd hp (by omega)⟩
  | m + 1, h1, h2 => by
    obtain ⟨K1, ra1, rb1, g1, g2, g3⟩ := winv_fin hW hN hc hm h m (by omega) (by omega)
    obtain ⟨K2, ra2, rb2, e1, e2, e3, e4, _⟩ := winv_write hW (N := N + m) (by omega) hc g1 (q := m) (by omega)
    refine ⟨K2, ra2, rb2, by rw [finTo, show N + ((m + 1 : Nat) : Int) = N + (m : Nat) + 1 by omega]; exact e1, by rw [finTo, e2, g2], fun p hp => ?_⟩
    rw [finTo]
    by_cases e : p = m
    · subst e; exact e4 (by rw [g2]; exact hm)
    · obtain ⟨w, hw, hd⟩ := g3 p (by omega)
      exact e3 p w hw hd
/-- The end: all writers are done, and what they wrote can be read. -/
theorem writers_end {W0 : List (Nat × Int)} (hW : W0Ok W0) (hwl : W0.length ≤ 16) (h16 : cs.length ≤ 16) (hb : ∀ y ∈ K.refuse, y < 12) (hc : 0 ≤ K.calls ∧ K.calls ≤ 1000) (order : List Int) (hP : PairB K kp mv fa fb ra rb cs) {t : IS} (ht : t = finishI kp mv cs (interl kp mv cs order ⟨⟨K, 0, 0⟩, W0.map (wrOf kp mv cs)⟩)) :
    t.ws.length = W0.length ∧ (t.s.ph = 4 ∨ t.s.ph = 5) ∧ kernelOk t.s.k = true ∧ ∀ q, q < t.ws.length → ∃ w, t.ws[q]? = some w ∧ w.dn = true ∧ loadV t.s.k.m w.ad = w.va ∧ loadF t.s.k.m w.ad = 0 := by
  obtain ⟨K1, ra1, rb1, n1, c1, g1, g2⟩ := winv_inter hW h16 hb order (t := ⟨⟨K, 0, 0⟩, W0.map (wrOf kp mv cs)⟩) hc.2 ⟨hP, rfl, jv_start hP hc.1, wsOk_start⟩
  unfold finishI at ht
  generalize interl kp mv cs order ⟨⟨K, 0, 0⟩, W0.map (wrOf kp mv cs)⟩ = t1 at *
  have hc1 := g1.2.2.1.2.2.2.2.2.2.2.2
  obtain ⟨n2, c2, g3, g4, g5, g6⟩ := jv_run g1.1 h16 (by rw [g1.2.1]; exact hb) 200 t1.s n1 c1 g1.2.2.1 (by omega)
  have ho := g6 (Nat.le_trans (mu_le _ h16 g1.2.2.1.2.2.1 hc1) (by omega))
  have hov : (runJ kp mv cs 200 t1.s).ph = 4 ∨ (runJ kp mv cs 200 t1.s).ph = 5 := by
    unfold overB at ho
    rwa [Bool.or_eq_true, beq_iff_eq, beq_iff_eq] at ho
  have hmid : mid (runJ kp mv cs 200 t1.s).ph = false := by rcases hov with e | e <;> rw [e] <;> rfl
  have hl1 := g1.2.2.2.1
  obtain ⟨K3, ra3, rb3, e1, e2, e3⟩ := winv_fin (K := K1) (ra := ra1) (rb := rb1) (R0 := K.refuse) (t := ⟨runJ kp mv cs 200 t1.s, t1.ws⟩) (n := n2) (calls := c2) (N := 200) hW (by omega) (by omega) hmid ⟨g1.1, g1.2.1, g3, g1.2.2.2⟩ W0.length (Nat.le_refl _) (by omega)
  rw [hl1] at ht
  rw [← ht] at e1 e2 e3
  obtain ⟨hP3, -, hJ3, hW3⟩ := e1
  refine ⟨hW3.1, by rw [e2]; exact hov, ?_, fun q hq => ?_⟩
  · rw [hJ3.1]; exact view_kok hP3 _ _ _ ⟨hJ3.2.2.2.2.2.2.2.2, by omega⟩
  · rw [hW3.1] at hq
    obtain ⟨x, hx⟩ := getx hq
    obtain ⟨w, hw, had, hva, hdn, -⟩ := hW3.2 q x hx
    obtain ⟨w', hw', hd'⟩ := e3 q hq
    rw [hw] at hw'; cases hw'
    have L := view_load hP3 t.s.ph n2 c2 x.1 (hW.rng x (List.mem_of_getElem? hx)).1
    rw [← hJ3.1, Int.mul_comm] at L
    refine ⟨w, hw, hd', ?_, ?_⟩
    · rw [had, L.1, hva]; exact hdn hd'
    · rw [had]; exact L.2
end
end Go.Proofs.Ytkkebpcclklmcaa
