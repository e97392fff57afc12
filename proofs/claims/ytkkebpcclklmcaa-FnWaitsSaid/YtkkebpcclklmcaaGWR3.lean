/-
  Texts put together: WrT, FinP, WrPack.
-/
import Derived.Test.YtkkebpcclklmcaaGWR2
import Derived.Test.YtkkebpcclklmcaaGB39
import Derived.Test.YtkkebpcclklmcaaGB9
import Derived.Test.YtkkebpcclklmcaaGB42
import Derived.Test.YtkkebpcclklmcaaGB45
/-
  One step of a writer behind a pointer, by the reference: nothing but the kernel's box is written. A copy of a list of writers.
-/
set_option linter.unusedVariables false
set_option linter.unusedSimpArgs false
namespace Go.Proofs.Ytkkebpcclklmcaa
open Go.RowKit
def WrDoneT (B g : Nat) (y : KV) (w : World) (K : Ker) (x : Wr) (e : Ending) (w' : World) : Prop := ∃ y' : KV, e = .returned x.val ∧ KIn B w' g y' K ∧ Below B w w' ∧ Touch [g] w w' ∧ ∀ b ∈ blocks y'.all, b ∈ blocks y.all ∨ w.heap.size ≤ b
theorem touch_setN {S : List Nat} {w w' : World} {g i : Nat} {v : Value} (h : Touch S w w') (hg : w.heap.size ≤ g) : Touch S w (w'.setCell ⟨g, i, none⟩ v) :=
  touch_skips h (touch_setC (Touch.refl [g] w') (by simp)) (fun b hb => .inr (by cases List.mem_singleton.1 hb; exact hg))

theorem i_copyWriters (v : Value) (xs : List Wr) (hs : xs.length ≤ 1048576) (w : World) (ha : WrAt w v xs) : Calls Try.prog 55 #[v] w fun e w' => ∃ u, e = .returned u ∧ OwnWr w.heap.size w' u xs ∧ Below w.heap.size w w' := by
  have HA := Lib.hid ha
  obtain ⟨ao, ca, rfl, _, _⟩ := ha.shape
  clear ha
  (have hall := all_nil w; go_enter Try.func55, Try.ntmps55)
  go_wp2_with (first | (at_builtin; refine wpList_appendAll elemWr rfl _ _ rfl lenWr oneWr rfl (Own.empty' _ _ _ (w.heap.size) _ _ (by simp) (by exact zt)) (by exact zt) rfl (HA.out.below (by exact bel)) (by simp only [List.length_nil, maxLen]; omega) ?_; intro v2 w2 hown2 hgr2 hat2 hb; (try simp only [List.nil_append] at hown2); obtain ⟨v2o, v2c, rfl, -, -⟩ := hown2.shape; skip))
  go_ret
  exact ⟨_, rfl, hown2, by exact bel⟩
end Go.Proofs.Ytkkebpcclklmcaa
/-
  What Finish and Interleave hand back: the words for it, and plain facts.
-/
set_option linter.unusedVariables false
set_option linter.unusedSimpArgs false
namespace Go.Proofs.Ytkkebpcclklmcaa
open Go.RowKit
def NewKJW (w : World) (t : IS) (kp mv : Int) (cs : List Int) (e : Ending) (w' : World) : Prop := ∃ (y : KV) (v u : Value), e = .returned (.tuple #[y.val t.s.k.calls, .agg #[.int .i64 kp, .int .i64 mv, v, .int .i64 t.s.ph, .int .i64 t.s.nx], u]) ∧ KOwn w.heap.size w' y t.s.k ∧ OwnI w.heap.size w' v cs ∧ OwnWr w.heap.size w' u t.ws ∧ (∀ g ∈ blocks y.all, g ∉ blocks [v]) ∧ (∀ g ∈ blocks y.all, g ∉ blocks [u]) ∧ (∀ g ∈ blocks [v], g ∉ blocks [u]) ∧ Below w.heap.size w w'
def AdOk (ws : List Wr) : Prop := ∀ (i : Nat) (x : Wr), ws[i]? = some x → -9223372036854775808 ≤ x.ad ∧ x.ad ≤ 9223372036854775807
theorem wrW_ad (K : Ker) (x : Wr) : (wrW K x).ad = x.ad := by
  unfold wrW
  split
  · rfl
  · split <;> rfl
theorem AdOk.set {ws : List Wr} (h : AdOk ws) {i : Nat} {x y : Wr} (hx : ws[i]? = some x) (hy : y.ad = x.ad) : AdOk (ws.set i y) := by
  intro j z hz
  rw [List.getElem?_set] at hz
  split at hz
  · rename_i e
    subst e
    split at hz
    · cases hz; rw [hy]; exact h i x hx
    · cases hz
  · exact h j z hz
theorem wStep_at {k : Ker} {ph nx : Int} {ws : List Wr} {n : Nat} {x : Wr} (hx : ws[n]? = some x) : wStep n ⟨⟨k, ph, nx⟩, ws⟩ = ⟨⟨wrK k x, ph, nx⟩, ws.set n (wrW k x)⟩ := by
  unfold wStep wAt
  dsimp only
  rw [getD_of hx]
theorem runTo200 (kp mv : Int) (cs : List Int) (s : JS) : runTo kp mv cs 200 s = runJ kp mv cs 200 s := by
  unfold runTo
  rw [if_pos (by decide)]; rfl
theorem kjw_fin {w wl w' : World} {B B1 B2 : Nat} {y : KV} {K : Ker} {v u : Value} {cs : List Int} {ws : List Wr} {S : List Nat} (hk : KOwn B wl y K) (hv : OwnI B1 wl v cs) (hu : OwnWr B2 wl u ws) (hB : w.heap.size ≤ B) (hB1 : w.heap.size ≤ B1) (hB2 : w.heap.size ≤ B2) (ht : Touch S wl w')
    (hS1 : ∀ g ∈ blocks y.all, g ∉ S) (hS2 : ∀ g ∈ blocks [v], g ∉ S) (hS3 : ∀ g ∈ blocks [u], g ∉ S) (hd : ∀ g ∈ blocks y.all, g ∉ blocks [v]) (hd2 : ∀ g ∈ blocks y.all, g ∉ blocks [u]) (hd3 : ∀ g ∈ blocks [v], g ∉ blocks [u]) (hbl : Below w.heap.size w wl) (hS : ∀ g ∈ S, w.heap.size ≤ g) :
    KOwn w.heap.size w' y K ∧ OwnI w.heap.size w' v cs ∧ OwnWr w.heap.size w' u ws ∧ (∀ g ∈ blocks y.all, g ∉ blocks [v]) ∧ (∀ g ∈ blocks y.all, g ∉ blocks [u]) ∧ (∀ g ∈ blocks [v], g ∉ blocks [u]) ∧ Below w.heap.size w w' :=
  ⟨(hk.touch ht hS1).mono hB, (Own.touchs hv ht hS2).mono hB1, (Own.touchs hu ht hS3).mono hB2, hd, hd2, hd3, hbl.trans (ht.toBelow hS hbl.size)⟩
/-- An element of a list of writers is written anew. -/
theorem OwnWr.put {B : Nat} {w : World} {g n cap : Nat} {ws : List Wr} (h : OwnWr B w (.slice (some ⟨g, 0, none⟩) n cap) ws) {i : Nat} (hi : i < ws.length) (ad va : Int) (dn : Bool) (wt : Int) :
    OwnWr B ((((w.setCell ⟨g, i * 4, none⟩ (.int .i64 ad)).setCell ⟨g, i * 4 + 1, none⟩ (.int .i64 va)).setCell ⟨g, i * 4 + 2, none⟩ (.bool dn)).setCell ⟨g, i * 4 + 3, none⟩ (.int .i64 wt)) (.slice (some ⟨g, 0, none⟩) n cap) (ws.set i ⟨ad, va, dn, wt⟩) :=
  (Own.setk lenWr h rfl i hi ⟨ad, va, dn, wt⟩).1
end Go.Proofs.Ytkkebpcclklmcaa
/-
  What the laws on writers need of their ends. Plain laws.
-/
set_option linter.unusedVariables false
set_option linter.unusedSimpArgs false
namespace Go.Proofs.Ytkkebpcclklmcaa
open Go.RowKit
theorem wAt_ad {ws : List Wr} (h : AdOk ws) {i : Nat} {K : Ker} : AdOk (ws.set i (wrW K (wAt ws i))) := by
  rcases Nat.lt_or_ge i ws.length with hi | hi
  · obtain ⟨x, hx⟩ := getx hi
    have e : wAt ws i = x := by unfold wAt; rw [List.getD_eq_getElem?_getD, hx]; rfl
    rw [e]
    exact h.set hx (wrW_ad _ _)
  · rw [List.set_eq_of_length_le hi]; exact h
theorem ilTo_ad (kp mv : Int) (cs order : List Int) {t : IS} (h : AdOk t.ws) : ∀ n, AdOk (ilTo kp mv cs order n t).ws
  | 0 => h
  | n + 1 => by
    have ih := ilTo_ad kp mv cs order h n
    rw [ilTo]
    unfold ilStep
    split
    · exact ih
    split
    · exact wAt_ad ih
    · exact ih
theorem interl_ad (kp mv : Int) (cs order : List Int) {t : IS} (h : AdOk t.ws) : AdOk (interl kp mv cs order t).ws := by
  unfold interl
  split
  · exact ilTo_ad kp mv cs order h _
  · exact h
theorem interl_len (kp mv : Int) (cs order : List Int) (t : IS) : (interl kp mv cs order t).ws.length = t.ws.length := by
  unfold interl
  split
  · exact ilTo_len ..
  · rfl
theorem interl_sz (kp mv : Int) (cs order : List Int) (t : IS) : szK (interl kp mv cs order t).s.k = szK t.s.k := by
  unfold interl
  split
  · exact sz_ilTo ..
  · rfl
theorem finTo_ad {t : IS} (h : AdOk t.ws) : ∀ n, AdOk (finTo n t).ws
  | 0 => h
  | n + 1 => by
    rw [finTo]
    exact wAt_ad (finTo_ad h n)
theorem fin_ad (kp mv : Int) (cs : List Int) {t : IS} (h : AdOk t.ws) : AdOk (finishI kp mv cs t).ws := by
  unfold finishI
  exact finTo_ad (t := ⟨runJ kp mv cs 200 t.s, t.ws⟩) h _
theorem live_lt (cs : List Int) {kp mv : Nat} (h1 : kp < 4) (h2 : mv < 4) (i : Nat) : livePg kp mv cs i < 4 := by unfold livePg; split <;> assumption
theorem w0_ad {kp mv : Nat} {cs : List Int} {W0 : List (Nat × Int)} (h : W0Ok W0) (h1 : kp < 4) (h2 : mv < 4) : AdOk (W0.map (wrOf kp mv cs)) := by
  intro i x hx
  rw [List.getElem?_map] at hx
  cases hx0 : W0[i]? with
  | none => rw [hx0] at hx; cases hx
  | some y =>
    rw [hx0] at hx
    simp only [Option.map_some, Option.some.injEq] at hx
    subst hx
    have h3 := (h.rng y (List.mem_of_getElem? hx0)).1
    have h4 := live_lt cs h1 h2 y.1
    unfold wrOf
    dsimp only
    omega
/-- The writers' end, both pages mapped. -/
structure WEnd (t : IS) (n : Nat) : Prop where
  len : t.ws.length = n
  ph : t.s.ph = 4 ∨ t.s.ph = 5
  kok : kernelOk t.s.k = true
  each : ∀ q, q < t.ws.length → ∃ w, t.ws[q]? = some w ∧ w.dn = true ∧ loadV t.s.k.m w.ad = w.va ∧ loadF t.s.k.m w.ad = 0
theorem wend_pack {K : Ker} {kp mv : Nat} {cs : List Int} (h : DInv K kp mv cs) (h1 : (pageEntry K.m.ents kp).m ≠ 0) (h2 : (pageEntry K.m.ents mv).m ≠ 0) {W0 : List (Nat × Int)} (hW : W0Ok W0) (hl : W0.length ≤ 3) (order : List Int) :
    WEnd (finishI kp mv cs (interl kp mv cs order ⟨⟨K, 0, 0⟩, W0.map (wrOf kp mv cs)⟩)) W0.length := by
  obtain ⟨fa, fb, ra, rb, P⟩ := dinv_pair h h1 h2
  obtain ⟨a, b, c, d⟩ := writers_end hW (by omega) h.c16 (dinv_ref h) h.calls order P rfl
  exact ⟨a, b, c, d⟩
theorem waits_all {K : Ker} {kp mv : Nat} {cs : List Int} (h : DInv K kp mv cs) {W0 : List (Nat × Int)} (hW : W0Ok W0) (order : List Int) {t : IS} (ht : interl kp mv cs order ⟨⟨K, 0, 0⟩, W0.map (wrOf kp mv cs)⟩ = t) :
    jobOk kp mv cs t.s.ph t.s.nx = true ∧ t.ws.length = W0.length ∧ ∀ (q : Nat) (x : Nat × Int), W0[q]? = some x → ∃ w, t.ws[q]? = some w ∧ waitOk kp mv cs t (wrOf kp mv cs x) w := by
  subst ht
  by_cases h0 : (pageEntry K.m.ents kp).m = 0 ∨ (pageEntry K.m.ents mv).m = 0
  · exact waits_unmapped hW h.plan (uinv_inter hW order (dinv_uinv h h0 W0))
  · obtain ⟨fa, fb, ra, rb, P⟩ := dinv_pair h (fun e => h0 (.inl e)) (fun e => h0 (.inr e))
    have hc := h.calls
    obtain ⟨K1, ra1, rb1, n1, c1, g1, g2⟩ := winv_inter hW h.c16 (dinv_ref h) order (t := ⟨⟨K, 0, 0⟩, W0.map (wrOf kp mv cs)⟩) hc.2 ⟨P, rfl, jv_start P hc.1, wsOk_start⟩
    exact waits_mapped hW (by omega) (by omega) g1
theorem live_tdiv {kp mv : Nat} {cs : List Int} {x : Nat × Int} (hx : x.1 < 16) : (wrOf kp mv cs x).ad.tdiv 16 = (livePg kp mv cs x.1 : Int) ∧ (wrOf kp mv cs x).ad / 16 = (livePg kp mv cs x.1 : Int) := by
  unfold wrOf
  dsimp only
  constructor
  · rw [Int.tdiv_eq_ediv_of_nonneg (by omega)]; omega
  · omega
end Go.Proofs.Ytkkebpcclklmcaa
