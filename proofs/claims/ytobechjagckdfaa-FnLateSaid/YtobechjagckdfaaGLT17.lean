/-
  Texts put together: CaseD, LateLaw, Late, LateM, FrameSp, FamSp.
-/
import Derived.Test.YtobechjagckdfaaGLT16
import Derived.Test.YtobechjagckdfaaGLT15
import Derived.Test.YtobechjagckdfaaGLT3
import Derived.Laws.StructEq
import Derived.Test.YtobechjagckdfaaGLT13
import Derived.Test.YtobechjagckdfaaGLT10
/-
  Kernels with a span on each mapped page, out of the bytes of a draw.
-/
set_option linter.unusedVariables false
set_option linter.unusedSimpArgs false
namespace Go.Proofs.Ytobechjagckdfaa
open Go.RowKit
def DrawnPages (w : World) (e : Ending) (w' : World) : Prop := ∃ (y : KV) (K : Ker) (v : Value) (sp : List Sp) (c : Int), e = .returned (.tuple #[y.val K.calls, v]) ∧ SInv K sp c 3 ∧ K.calls ≤ 6 ∧ sp.length ≤ 3 ∧ KOwn w.heap.size w' y K ∧ OwnSp w.heap.size w' v sp ∧ (∀ b ∈ blocks [v], b ∉ blocks y.all) ∧ Below w.heap.size w w'
set_option maxRecDepth 20000 in
theorem s_DrawPages (v : Value) (n : Nat) (w : World) (hv : BytesAt w.heap.size w v n) : Calls Try.prog 6 #[v] w (DrawnPages w) := by
  have HV := Lib.hid hv; clear hv
  (have hall := all_nil w; go_enter Try.func6, Try.ntmps6)
  go_wp2_with fail
  refine (s_l01New v n _ (BytesAt.grewN HV.out ((Below.refl _ _).alloc (Nat.le_refl _) (.cells #[.slice none 0 0, .slice none 0 0, .slice none 0 0, .int .i64 0, .slice none 0 0] 35)))).mono ?_; rintro e w1 ⟨g, rfl, hcur, hb1⟩
  have hg1 := hcur.1
  have hz1 := hb1.size
  simp only [World.size_alloc] at hg1 hz1
  have HB1 := Lib.hid hb1; clear hb1
  go_wp2_with fail
  refine (s_l16Case _ g _ hcur).mono ?_; rintro e w2 ⟨y, K, v2, sp, c, rfl, hinv, hcl, hsp, hko, hso, hap, hgr⟩
  obtain ⟨yco, ycc, yuo, yuc, yvs, yeo, yec, yro, yrc, rfl⟩ := KOwn.shapes hko
  obtain ⟨so, scp, rfl, -, -, -⟩ := Own.shape hso
  have ht : Touch [g] w1 w2 := grown_touch hgr fun b hb => by cases hb; simp
  have bx : BoxAt w2 w.heap.size [.slice none 0 0, .slice none 0 0, .slice none 0 0, .int .i64 0, .slice none 0 0] := by
    have b0 : BoxAt (w.alloc (.cells #[.slice none 0 0, .slice none 0 0, .slice none 0 0, .int .i64 0, .slice none 0 0] 35)) w.heap.size [.slice none 0 0, .slice none 0 0, .slice none 0 0, .int .i64 0, .slice none 0 0] := BoxAt.snoc (BoxAt.snoc (BoxAt.snoc (BoxAt.snoc (BoxAt.snoc (BoxAt.nil (by go_simp)) rfl (by go_simp) (by go_simp)) rfl (by go_simp) (by go_simp)) rfl (by go_simp) (by go_simp)) rfl (by go_simp) (by go_simp)) rfl (by go_simp) (by go_simp)
    exact (b0.below HB1.out).touch ht (by simp; omega)
  have p0 := (bx.cells 0 _ rfl).1; have q0 := (bx.cells 0 _ rfl).2; have p1 := (bx.cells 1 _ rfl).1; have q1 := (bx.cells 1 _ rfl).2; have p2 := (bx.cells 2 _ rfl).1; have q2 := (bx.cells 2 _ rfl).2; have p3 := (bx.cells 3 _ rfl).1; have q3 := (bx.cells 3 _ rfl).2; have p4 := (bx.cells 4 _ rfl).1; have q4 := (bx.cells 4 _ rfl).2
  have xb := bx.lt
  have HK := Lib.hid hko; have HS := Lib.hid hso; have HI := Lib.hid hinv
  have HW : Hid (Below w.heap.size w w2) := Lib.hid ((((Below.refl _ _).alloc (Nat.le_refl _) _).trans (HB1.out.mono (by simp only [World.size_alloc]; omega))).trans (below_of_grown hgr (by omega) (by omega)))
  clear bx hko hso hinv hcur ht hgr
  simp only [KV.val]
  go_wp2_with fail
  refine bodyPost_ret (v := .tuple #[.agg #[.slice yco yvs.length ycc, .slice yuo K.m.f.used.length yuc, .slice yeo K.m.ents.length yec, .int .i64 K.calls, .slice yro K.refuse.length yrc], .slice so sp.length scp]) (by simp [results, Try.results6, go_sem, *]) rfl ?_
  refine ⟨⟨⟨⟨.slice yco yvs.length ycc, .slice yuo K.m.f.used.length yuc, yvs⟩, .slice yeo K.m.ents.length yec⟩, .slice yro K.refuse.length yrc⟩, K, _, sp, c, rfl, HI.out, by omega, by omega, (HK.out.touch (S := [w.heap.size]) (touch_bx (touch_bx (touch_bx (touch_bx (touch_bx (Touch.refl _ _)))))) (fun b hb hm => by cases List.mem_singleton.1 hm; have := (HK.out.lts _ hb).1; omega)).mono (by omega), (Own.touch (S := [w.heap.size]) HS.out (touch_bx (touch_bx (touch_bx (touch_bx (touch_bx (Touch.refl _ _)))))) (fun b hb hm => by cases List.mem_singleton.1 hm; have := (HS.out.lt _ hb).1; omega)).mono (by omega), hap, ?_⟩
  exact ((((HW.out.setCell (Nat.le_refl _) _).setCell (Nat.le_refl _) _).setCell (Nat.le_refl _) _).setCell (Nat.le_refl _) _).setCell (Nat.le_refl _) _

end Go.Proofs.Ytobechjagckdfaa
/-
  Frees that had to wait are performed as soon as the protection ends: a plain law.
-/
set_option linter.unusedVariables false
set_option linter.unusedSimpArgs false
namespace Go.Proofs.Ytobechjagckdfaa
def bitOf (s : Sp) (l : Nat) : Bool := s.b.toNat.testBit l
/-- From one moment of LateApply to a later one. -/
structure LRel (c : Int) (n : Nat) (t t' : LA) : Prop where
  inv : SInv t'.k t'.sp c n
  ents : t'.k.m.ents = t.k.m.ents
  len : t'.sp.length = t.sp.length
  mono : ∀ (j : Nat) (s' : Sp), t'.sp[j]? = some s' → ∃ s, t.sp[j]? = some s ∧ s'.p = s.p ∧ ∀ l, bitOf s' l = true → bitOf s l = true
  keep : ∀ y ∈ t.left, y ∈ t'.left
theorem LRel.refl {c : Int} {n : Nat} {t : LA} (h : SInv t.k t.sp c n) : LRel c n t t := ⟨h, rfl, rfl, fun _ s' h => ⟨s', h, rfl, fun _ x => x⟩, fun _ h => h⟩
theorem LRel.trans {c : Int} {n : Nat} {t t1 t2 : LA} (h : LRel c n t t1) (h2 : LRel c n t1 t2) : LRel c n t t2 :=
  ⟨h2.inv, h2.ents.trans h.ents, h2.len.trans h.len, fun j s' hs => by
    obtain ⟨s1, a1, a2, a3⟩ := h2.mono j s' hs
    obtain ⟨s0, b1, b2, b3⟩ := h.mono j s1 a1
    exact ⟨s0, b1, a2.trans b2, fun l hl => b3 l (a3 l hl)⟩, fun y hy => h2.keep y (h.keep y hy)⟩
def allTwo (K : Ker) : Prop := ∀ (p : Nat) (e : Ent), K.m.ents[p]? = some e → e.m ≠ 0 → e.m = 2
theorem la_one {c : Int} {n : Nat} {t : LA} (h : SInv t.k t.sp c n) {i m : Nat} (hi : i < t.sp.length) (hm : m < 16) :
    LRel c n t (laStep ⟨(i : Int), (m : Int)⟩ t) ∧ (∀ y ∈ (laStep ⟨(i : Int), (m : Int)⟩ t).left, y ∈ t.left ∨ y = ⟨(i : Int), (m : Int)⟩) ∧
    (∀ s', (laStep ⟨(i : Int), (m : Int)⟩ t).sp[i]? = some s' → bitOf s' m = true → (⟨(i : Int), (m : Int)⟩ : Lt) ∈ (laStep ⟨(i : Int), (m : Int)⟩ t).left) ∧
    (allTwo t.k → (laStep ⟨(i : Int), (m : Int)⟩ t).left = t.left) := by
  obtain ⟨s, hs⟩ := getx hi
  obtain ⟨p, b, hsp, hpn, hlt, e, he, hem⟩ := h.span i s hs
  subst hsp
  have hst := laStep_in (x := ⟨(i : Int), (m : Int)⟩) (t := t) (between_iff.2 ⟨by dsimp only; omega, by dsimp only; omega⟩) (i := i) rfl hs
  dsimp only at hst
  rw [hst]
  have hcode := free_code h hs he m hm
  have hset : t.sp.set i ⟨(p : Int), c, (b : Int)⟩ = t.sp := by
    rw [List.getElem?_eq_some_iff] at hs
    obtain ⟨h1, h2⟩ := hs
    rw [← h2]
    exact List.set_getElem_self h1
  cases hb : b.testBit m
  · rw [hb] at hcode
    simp only [if_true] at hcode
    have e1 : freeK t.k p c b m = t.k := by unfold freeK; rw [hcode]; rfl
    have e2 : freeB t.k p c b m = b := by unfold freeB; rw [hcode]; rfl
    rw [e1, e2, hcode, hset]
    simp only [show ¬ (1 : Int) = 2 by decide, if_false]
    refine ⟨LRel.refl h, fun y hy => .inl hy, fun s' hs' hbit => ?_, fun _ => by first | rfl | trivial⟩
    rw [hs] at hs'; cases hs'
    unfold bitOf at hbit
    rw [Int.toNat_natCast, hb] at hbit
    cases hbit
  · rw [hb] at hcode
    simp only [Bool.true_eq_false, if_false] at hcode
    rcases hem with h1 | h2
    · rw [if_pos h1] at hcode
      have e1 : freeK t.k p c b m = t.k := by unfold freeK; rw [hcode]; rfl
      have e2 : freeB t.k p c b m = b := by unfold freeB; rw [hcode]; rfl
      rw [e1, e2, hcode, hset]
      simp only [if_true]
      refine ⟨⟨h, rfl, rfl, fun _ s' h => ⟨s', h, rfl, fun _ x => x⟩, fun y hy => List.mem_append_left _ hy⟩, fun y hy => ?_, fun s' _ _ => List.mem_append_right _ (List.mem_singleton.2 rfl), fun h2 => ?_⟩
      · rcases List.mem_append.1 hy with hy | hy
        · exact .inl hy
        · exact .inr (List.mem_singleton.1 hy)
      · have := h2 p e he (by omega)
        omega
    · have hne : ¬ e.m = 1 := by omega
      rw [if_neg hne] at hcode
      obtain ⟨-, b', hB, hlt', hbit, hK⟩ := free_done h hs he h2 hm hb
      have hin := free_inv h hs he h2 hm hb hlt' hbit hK
      rw [hB, hcode]
      simp only [show ¬ (0 : Int) = 2 by decide, if_false]
      refine ⟨⟨hin, by dsimp only; rw [hK], by dsimp only; rw [List.length_set], fun j s' hj => ?_, fun y hy => hy⟩, fun y hy => .inl hy, fun s' hs' hbt => ?_, fun _ => by first | rfl | trivial⟩
      · rcases getElem?_set_cases hj with ⟨rfl, rfl⟩ | ⟨_, hj⟩
        · refine ⟨_, hs, rfl, fun l hl => ?_⟩
          unfold bitOf at hl ⊢
          dsimp only at hl ⊢
          rw [Int.toNat_natCast] at hl ⊢
          rw [hbit] at hl
          simp only [Bool.and_eq_true] at hl
          exact hl.1
        · exact ⟨s', hj, rfl, fun _ x => x⟩
      · rw [List.getElem?_set_self (getx_lt hs)] at hs'
        cases hs'
        unfold bitOf at hbt
        dsimp only at hbt
        rw [Int.toNat_natCast, hbit] at hbt
        simp at hbt
/-- The pairs of a list: a span's number and a slot. -/
def PairsOf (xs : List Lt) (len : Nat) : Prop := ∀ x ∈ xs, ∃ i m : Nat, x = ⟨(i : Int), (m : Int)⟩ ∧ i < len ∧ m < 16
theorem la_many {c : Int} {n : Nat} {t : LA} (h : SInv t.k t.sp c n) {xs : List Lt} (hx : PairsOf xs t.sp.length) : ∀ k, k ≤ xs.length →
    LRel c n t (laTo xs k t) ∧ (∀ y ∈ (laTo xs k t).left, y ∈ t.left ∨ y ∈ xs) ∧
    (∀ (q i m : Nat), q < k → xs[q]? = some ⟨(i : Int), (m : Int)⟩ → ∀ s', (laTo xs k t).sp[i]? = some s' → bitOf s' m = true → (⟨(i : Int), (m : Int)⟩ : Lt) ∈ (laTo xs k t).left) ∧
    (allTwo t.k → (laTo xs k t).left = t.left)
  | 0, _ => ⟨LRel.refl h, fun _ hy => .inl hy, fun q i m hq => by omega, fun _ => rfl⟩
  | k + 1, hk => by
    obtain ⟨hr, hl, hp, h2⟩ := la_many h hx k (by omega)
    rw [laTo]
    obtain ⟨x, hxk⟩ := getx (xs := xs) (k := k) (by omega)
    rw [getD_of hxk]
    obtain ⟨i, m, rfl, hi, hm⟩ := hx x (List.mem_of_getElem? hxk)
    obtain ⟨s1, s2, s3, s4⟩ := la_one hr.inv (i := i) (m := m) (by rw [hr.len]; exact hi) hm
    refine ⟨hr.trans s1, fun y hy => ?_, fun q i' m' hq hxq s' hs' hb => ?_, fun ha => ?_⟩
    · rcases s2 y hy with hy | rfl
      · exact hl y hy
      · exact .inr (List.mem_of_getElem? hxk)
    · rcases Nat.lt_or_ge q k with hqk | hqk
      · obtain ⟨s0, a1, -, a3⟩ := s1.mono i' s' hs'
        exact s1.keep _ (hp q i' m' hqk hxq s0 a1 (a3 m' hb))
      · obtain rfl : q = k := by omega
        rw [hxk] at hxq
        simp only [Option.some.injEq, Lt.mk.injEq] at hxq
        obtain rfl : i = i' := by omega
        obtain rfl : m = m' := by omega
        exact s3 s' hs' hb
    · have : allTwo (laTo xs k t).k := by unfold allTwo; rw [hr.ents]; exact ha
      rw [s4 this, h2 ha]
/-! The protection ends: every page of a span is writable again. -/
def set2 (K : Ker) (p : Int) : Ker := ⟨⟨K.m.f, K.m.ents.set p.toNat ⟨2, (pageEntry K.m.ents p).f⟩⟩, K.calls, K.refuse⟩
def setTwo (ps : List Sp) : Nat → Ker → Ker
  | 0, K => K
  | k + 1, K => set2 (setTwo ps k K) (ps.getD k default).p
theorem setTwo_inv {c : Int} {n : Nat} {sp ps : List Sp} {K : Ker} (h : SInv K sp c n) (hps : ∀ (q : Nat) (s : Sp), ps[q]? = some s → ∃ s', sp[q]? = some s' ∧ s'.p = s.p) : ∀ k, k ≤ ps.length →
    SInv (setTwo ps k K) sp c n ∧ ∀ (q : Nat) (s : Sp) (p : Nat) (e : Ent), q < k → sp[q]? = some s → s.p = (p : Int) → (setTwo ps k K).m.ents[p]? = some e → e.m = 2
  | 0, _ => ⟨h, fun q _ _ _ hq => by omega⟩
  | k + 1, hk => by
    obtain ⟨hi, ht⟩ := setTwo_inv h hps k (by omega)
    obtain ⟨s0, hs0⟩ := getx (xs := ps) (k := k) (by omega)
    obtain ⟨s1, hs1, hpp⟩ := hps k s0 hs0
    obtain ⟨p1, b1, hsp, -, -, e1, he1, hm1⟩ := hi.span k s1 hs1
    have hp0 : s0.p = (p1 : Int) := by rw [← hpp, hsp]
    have heq : setTwo ps (k + 1) K = ⟨⟨(setTwo ps k K).m.f, (setTwo ps k K).m.ents.set p1 ⟨2, e1.f⟩⟩, (setTwo ps k K).calls, (setTwo ps k K).refuse⟩ := by
      rw [setTwo, getD_of hs0]
      unfold set2
      rw [hp0, pageEntry_at he1, Int.toNat_natCast]
    rw [heq]
    refine ⟨sinv_mode hi he1 (by omega) (.inr rfl), fun q s p e hq hs hsp2 he => ?_⟩
    dsimp only at he
    rcases getElem?_set_cases he with ⟨rfl, rfl⟩ | ⟨hne, he⟩
    · rfl
    · have hqk : q < k := by
        rcases Nat.lt_or_ge q k with h1 | h1
        · exact h1
        · obtain rfl : q = k := by omega
          rw [hs1] at hs; cases hs
          rw [hsp] at hsp2
          dsimp only at hsp2
          omega
      exact ht q s p e hqk hs hsp2 he
theorem setTwo_all {c : Int} {n : Nat} {sp ps : List Sp} {K : Ker} (h : SInv K sp c n) (hl : ps.length = sp.length) (hps : ∀ (q : Nat) (s : Sp), ps[q]? = some s → ∃ s', sp[q]? = some s' ∧ s'.p = s.p) :
    SInv (setTwo ps ps.length K) sp c n ∧ allTwo (setTwo ps ps.length K) := by
  obtain ⟨hi, ht⟩ := setTwo_inv h hps ps.length (Nat.le_refl _)
  refine ⟨hi, fun p e he hm => ?_⟩
  obtain ⟨-, q, s, hq, hs⟩ := hi.only p e he hm
  exact ht q s p e (by have := getx_lt hq; omega) hq hs he
/-- The pairs of all spans and the first four slots. -/
def lateTo : Nat → List Lt
  | 0 => []
  | k + 1 => lateTo k ++ [⟨((k / 4 : Nat) : Int), ((k % 4 : Nat) : Int)⟩]
theorem lateTo_len : ∀ k, (lateTo k).length = k
  | 0 => rfl
  | k + 1 => by rw [lateTo, List.length_append, lateTo_len k]; rfl
theorem lateTo_get : ∀ (k q : Nat), q < k → (lateTo k)[q]? = some ⟨((q / 4 : Nat) : Int), ((q % 4 : Nat) : Int)⟩
  | 0, _, h => by omega
  | k + 1, q, h => by
    rw [lateTo]
    rcases Nat.lt_or_ge q k with h1 | h1
    · rw [List.getElem?_append_left (by rw [lateTo_len]; exact h1)]
      exact lateTo_get k q h1
    · obtain rfl : q = k := by omega
      rw [List.getElem?_append_right (by rw [lateTo_len]; omega), lateTo_len]
      simp
theorem and15 {b : Nat} (hb : b < 65536) (h : ∀ m, m < 4 → b.testBit m = false) : bits .and .i64 (b : Int) 15 = 0 := by
  have h1 := (i64_nat b 15 hb (by omega)).1
  have h2 : b &&& 15 = 0 := by
    apply Nat.eq_of_testBit_eq
    intro i
    rw [Nat.testBit_and, Nat.zero_testBit]
    rcases Nat.lt_or_ge i 4 with h3 | h3
    · rw [h i h3]; rfl
    · have : (15 : Nat).testBit i = false := Nat.testBit_lt_two_pow (Nat.lt_of_lt_of_le (show 15 < 2 ^ 4 by decide) (Nat.pow_le_pow_right (by omega) h3))
      rw [this, Bool.and_false]
  rw [h2] at h1
  exact_mod_cast h1
/-- The law. -/
theorem late_all {K : Ker} {sp : List Sp} {c : Int} {n : Nat} (h : SInv K sp c n) {t1 t2 : LA} (h1 : t1 = laRun (lateTo (4 * sp.length)) K sp) (h2 : t2 = laRun t1.left (setTwo sp sp.length t1.k) t1.sp) :
    t2.sp.length = sp.length ∧ t2.left = [] ∧ kernelOk t2.k = true ∧ ∀ (i : Nat) (s : Sp), t2.sp[i]? = some s → bits .and .i64 s.b 15 = 0 := by
  have hpairs : PairsOf (lateTo (4 * sp.length)) sp.length := by
    intro x hx
    obtain ⟨q, hq⟩ := List.getElem?_of_mem hx
    have hql := getx_lt hq
    rw [lateTo_len] at hql
    rw [lateTo_get _ q hql] at hq
    cases hq
    exact ⟨q / 4, q % 4, rfl, by omega, by omega⟩
  obtain ⟨r1, l1, p1, -⟩ := la_many (t := ⟨K, sp, []⟩) h hpairs (lateTo (4 * sp.length)).length (Nat.le_refl _)
  have e1 : laTo (lateTo (4 * sp.length)) (lateTo (4 * sp.length)).length ⟨K, sp, []⟩ = t1 := h1.symm
  rw [e1] at r1 l1 p1
  have hps : ∀ (q : Nat) (s : Sp), sp[q]? = some s → ∃ s', t1.sp[q]? = some s' ∧ s'.p = s.p := by
    intro q s hs
    obtain ⟨s', hs'⟩ := getx (xs := t1.sp) (k := q) (by rw [r1.len]; exact getx_lt hs)
    obtain ⟨s0, a1, a2, -⟩ := r1.mono q s' hs'
    dsimp only at a1
    rw [hs] at a1; cases a1
    exact ⟨s', hs', a2⟩
  obtain ⟨hi2, hall⟩ := setTwo_all (ps := sp) r1.inv r1.len.symm hps
  have hpairs2 : PairsOf t1.left t1.sp.length := by
    intro x hx
    rcases l1 x hx with hx | hx
    · cases hx
    · rw [r1.len]; exact hpairs x hx
  obtain ⟨r2, -, p2, a2⟩ := la_many (t := ⟨setTwo sp sp.length t1.k, t1.sp, []⟩) hi2 hpairs2 t1.left.length (Nat.le_refl _)
  have e2 : laTo t1.left t1.left.length ⟨setTwo sp sp.length t1.k, t1.sp, []⟩ = t2 := h2.symm
  rw [e2] at r2 p2 a2
  have hnil : t2.left = [] := a2 hall
  refine ⟨r2.len.trans r1.len, hnil, r2.inv.kok, fun i s hs => ?_⟩
  obtain ⟨p, b, hsp, -, hlt, -⟩ := r2.inv.span i s hs
  subst hsp
  refine and15 (pow_slots r2.inv.cls hlt) fun m hm => ?_
  cases hb : b.testBit m
  · rfl
  · exfalso
    have hbit : bitOf ⟨(p : Int), c, (b : Int)⟩ m = true := by unfold bitOf; rw [Int.toNat_natCast]; exact hb
    obtain ⟨s1, b1, -, b3⟩ := r2.mono i _ hs
    have hil : i < sp.length := by
      have := getx_lt b1
      dsimp only at this
      rw [r1.len] at this
      exact this
    have hq : (lateTo (4 * sp.length))[4 * i + m]? = some ⟨(i : Int), (m : Int)⟩ := by
      rw [lateTo_get _ _ (by omega)]
      congr 2
      · congr 1; omega
      · congr 1; omega
    have hmem := p1 (4 * i + m) i m (by rw [lateTo_len]; omega) hq s1 b1 (b3 m hbit)
    obtain ⟨q, hq2⟩ := List.getElem?_of_mem hmem
    have := p2 q i m (getx_lt hq2) hq2 _ hs hbit
    rw [hnil] at this
    cases this
end Go.Proofs.Ytobechjagckdfaa
/-
  A free that has to wait is noted, both sides.
-/
set_option linter.unusedVariables false
set_option linter.unusedSimpArgs false
namespace Go.Proofs.Ytobechjagckdfaa
open Go.RowKit
theorem eqlLt (w : World) (a b c d : Int) : (binOp .eql 43 (.agg #[.int .i64 a, .int .i64 b]) (.agg #[.int .i64 c, .int .i64 d])).run Try.prog w = .ok (.bool ((a == c) && (b == d))) w := by
  rw [run_eql_struct, run_equalIn_agg (P := Try.prog) w 9999 _ _ _ (by kernel_rfl) (by kernel_rfl)]
  by_cases h1 : a = c
  · subst h1
    by_cases h2 : b = d
    · subst h2
      simp [go_sem]
    · simp [go_sem, h2]
  · simp [go_sem, h1]
attribute [go_sem ↓] eqlLt
def eqL (x y : Lt) : Bool := (x.ix == y.ix) && (x.sl == y.sl)
def hasLTo (xs : List Lt) (x : Lt) : Nat → Bool
  | 0 => false
  | k + 1 => hasLTo xs x k || eqL (xs.getD k default) x
def hasL (xs : List Lt) (x : Lt) : Bool := hasLTo xs x xs.length
theorem hasLTo_succ {xs : List Lt} {x y : Lt} {k : Nat} (h : xs[k]? = some y) : hasLTo xs x (k + 1) = (hasLTo xs x k || eqL y x) := by rw [hasLTo, getD_of h]
theorem hasLTo_true {xs : List Lt} {x : Lt} {k n : Nat} (hk : k < n) (h : eqL (xs.getD k default) x = true) : hasLTo xs x n = true := by
  induction n with
  | zero => omega
  | succ n ih =>
    rw [hasLTo]
    rcases Nat.lt_or_ge k n with h1 | h1
    · rw [ih h1]; rfl
    · obtain rfl : k = n := by omega
      rw [h, Bool.or_true]
def lateB (xs : List Lt) (x : Lt) : Bool := !hasL xs x && decide (xs.length < 40)
def lateL (xs : List Lt) (x : Lt) : List Lt := if lateB xs x then xs ++ [x] else xs
def NewLB (w : World) (xs : List Lt) (b : Bool) (e : Ending) (w' : World) : Prop := ∃ v, e = .returned (.tuple #[v, .bool b]) ∧ OwnLt w.heap.size w' v xs ∧ Below w.heap.size w w'

def IdxOfL (b : Bool) (w : World) (e : Ending) (w' : World) : Prop := ∃ i : Int, e = .returned (.int .i64 i) ∧ decide (0 ≤ i) = b ∧ Below w.heap.size w w'
set_option maxHeartbeats 1600000 in
theorem l_IndexL (va : Value) (xs : List Lt) (x : Lt) (w : World) (ha : LtAt w va xs) : Calls Try.prog 51 #[va, .agg #[.int .i64 x.ix, .int .i64 x.sl]] w (IdxOfL (hasL xs x) w) := by
  obtain ⟨ao, ca, rfl, _, hm, hra⟩ := LtAt.open ha
  have hle : xs.length ≤ 9223372036854775807 := by unfold maxLen at hm; omega
  have HA := Lib.hid hra
  clear ha hm hra
  obtain ⟨xi, hxi⟩ : ∃ xi, xi = x.ix := ⟨_, rfl⟩
  obtain ⟨xs_, hxs⟩ : ∃ xs_, xs_ = x.sl := ⟨_, rfl⟩
  have HXE := Lib.hid (show x = ⟨xi, xs_⟩ from by rw [hxi, hxs])
  rw [← hxi, ← hxs]
  clear hxi hxs
  (have hall := all_nil w; go_enter Try.func51, Try.ntmps51)
  go_wp2_with (first | (with_reducible refine wp_region_grew2 (by kernel_rfl) (by kernel_rfl) ?_; intro w2 hb; (first | have hn := nw4 hb hall (by exact zo) | have hn := nw3 hb hall (by exact zo) | have hn := nw2 hb hall (by exact zo) | have hn := nw1 hb hall (by exact zo) | have hn := nw0 hb hall (by exact zo)); obtain ⟨hc, hf, hn, hc0⟩ := hn; replace hall := hn; clear hn; have hz := hb.size; (try simp only [World.size_alloc, World.size_setCell, World.size_drew] at hz); have hx := hall; (try simp only [allLt, and_true] at hx); obtain ⟨w1, rfl⟩ : ∃ x, x = w2 := ⟨_, rfl⟩; (repeat (go_big_quiet_step (fail))); refine wpQuiet_nil ?_; intro w2 hw'; have hb := grew_below hw'; clear hw'; (first | have hn := nw4 hb hall (by exact zo) | have hn := nw3 hb hall (by exact zo) | have hn := nw2 hb hall (by exact zo) | have hn := nw1 hb hall (by exact zo) | have hn := nw0 hb hall (by exact zo)); obtain ⟨hc, hf, hn, hc0⟩ := hn; replace hall := hn; clear hn; have hz := hb.size; (try simp only [World.size_alloc, World.size_setCell, World.size_drew] at hz); have hx := hall; (try simp only [allLt, and_true] at hx); obtain ⟨w1, rfl⟩ : ∃ x, x = w2 := ⟨_, rfl⟩))
  go_loopw [8] (fun i wr => ∃ k : Nat, k ≤ xs.length ∧ i = .int .i64 k ∧ hasLTo xs x k = false ∧ Below w.heap.size w wr ∧ wr.cell? ⟨w.heap.size, 0, none⟩ = some (.int .i64 xi) ∧ wr.cell? ⟨w.heap.size, 1, none⟩ = some (.int .i64 xs_) ∧ w.heap.size < wr.heap.size) (fun i _ => xs.length - (intOf i).toNat)
  case atStart => exact ⟨0, Nat.zero_le _, rfl, rfl, by exact bel, by go_simp, by go_simp, by go_simp⟩
  case round =>
    obtain ⟨k, hk, rfl, hn, hbel, q0, q1, xw⟩ := hrel
    have HN := Lib.hid hn; have HB := Lib.hid hbel; have hsz := hbel.size
    clear hn
    obtain ⟨wo, rfl⟩ : ∃ x, x = wr := ⟨_, rfl⟩
    by_cases hlt : k < xs.length
    · have hlt' : (k : Int) < xs.length := by omega
      obtain ⟨y, hy⟩ := getx hlt
      obtain ⟨g, o, rfl, hg, c0, c1⟩ := HA.out k y hy
      have HS := Lib.hid (hasLTo_succ (x := x) hy)
      have HY := Lib.hid (getD_of (d := default) hy)
      replace c0 := (hbel.cell (p := ⟨g, o + k * 2, none⟩) hg).trans c0
      replace c1 := (hbel.cell (p := ⟨g, o + k * 2 + 1, none⟩) hg).trans c1
      have xg : g < wo.heap.size := by omega
      clear hy hbel
      obtain ⟨yi, ys_⟩ := y
      dsimp only at c0 c1
      by_cases e1 : yi = xi
      · replace e1 := e1.symm; subst e1
        have f0 : (xi == xi) = true := by simp
        by_cases e2 : ys_ = xs_
        · replace e2 := e2.symm; subst e2
          have f1 : (xs_ == xs_) = true := by simp
          have hq : eqL ⟨xi, xs_⟩ x = true := by rw [HXE.out]; simp [eqL]
          go_wp2_with (first | (with_reducible refine wp_region_grew2 (by kernel_rfl) (by kernel_rfl) ?_; intro w2 hb; obtain ⟨kwa_P_0, kwa_P_1⟩ := kp2 hb (w.heap.size) (.int .i64 xi) (.int .i64 xs_); have kwa_G0 : w2.cell? ⟨g, o + k * 2, none⟩ = some (.int .i64 xi) := kc hb; have kwa_G1 : w2.cell? ⟨g, o + k * 2 + 1, none⟩ = some (.int .i64 xs_) := kc hb; have xwa_P : w.heap.size < w2.heap.size := xc hb; have xwa_GG : g < w2.heap.size := xc hb; have hzwa := hb.size; (try simp only [World.size_alloc, World.size_setCell, World.size_drew] at hzwa); have HB1 := Lib.hid hb; obtain ⟨wa, rfl⟩ : ∃ x, x = w2 := ⟨_, rfl⟩; (repeat (go_big_quiet_step (fail))); refine wpQuiet_nil ?_; intro w2 hw'; have hb := grew_below hw'; clear hw'; obtain ⟨kwb_P_0, kwb_P_1⟩ := kp2 hb (w.heap.size) (.int .i64 xi) (.int .i64 xs_); have kwb_G0 : w2.cell? ⟨g, o + k * 2, none⟩ = some (.int .i64 xi) := kc hb; have kwb_G1 : w2.cell? ⟨g, o + k * 2 + 1, none⟩ = some (.int .i64 xs_) := kc hb; have xwb_P : w.heap.size < w2.heap.size := xc hb; have xwb_GG : g < w2.heap.size := xc hb; have hzwb := hb.size; (try simp only [World.size_alloc, World.size_setCell, World.size_drew] at hzwb); have HB2 := Lib.hid hb; obtain ⟨wb, rfl⟩ : ∃ x, x = w2 := ⟨_, rfl⟩))
          skip
          go_ret
          have hB := HB.out; have hB1 := HB1.out; have hB2 := HB2.out
          exact ⟨k, rfl, by rw [show hasL xs x = true from hasLTo_true hlt (by rw [HY.out]; exact hq)]; simp, by exact bel⟩
        · have f1 : (ys_ == xs_) = false := by simpa using e2
          have f2 : (xs_ == ys_) = false := by simpa using fun h => e2 h.symm
          have hq : eqL ⟨xi, ys_⟩ x = false := by rw [HXE.out]; simp [eqL, e2]
          go_wp2_with (first | (with_reducible refine wp_region_grew2 (by kernel_rfl) (by kernel_rfl) ?_; intro w2 hb; obtain ⟨kwa_P_0, kwa_P_1⟩ := kp2 hb (w.heap.size) (.int .i64 xi) (.int .i64 xs_); have kwa_G0 : w2.cell? ⟨g, o + k * 2, none⟩ = some (.int .i64 xi) := kc hb; have kwa_G1 : w2.cell? ⟨g, o + k * 2 + 1, none⟩ = some (.int .i64 ys_) := kc hb; have xwa_P : w.heap.size < w2.heap.size := xc hb; have xwa_GG : g < w2.heap.size := xc hb; have hzwa := hb.size; (try simp only [World.size_alloc, World.size_setCell, World.size_drew] at hzwa); have HB1 := Lib.hid hb; obtain ⟨wa, rfl⟩ : ∃ x, x = w2 := ⟨_, rfl⟩; (repeat (go_big_quiet_step (fail))); refine wpQuiet_nil ?_; intro w2 hw'; have hb := grew_below hw'; clear hw'; obtain ⟨kwb_P_0, kwb_P_1⟩ := kp2 hb (w.heap.size) (.int .i64 xi) (.int .i64 xs_); have kwb_G0 : w2.cell? ⟨g, o + k * 2, none⟩ = some (.int .i64 xi) := kc hb; have kwb_G1 : w2.cell? ⟨g, o + k * 2 + 1, none⟩ = some (.int .i64 ys_) := kc hb; have xwb_P : w.heap.size < w2.heap.size := xc hb; have xwb_GG : g < w2.heap.size := xc hb; have hzwb := hb.size; (try simp only [World.size_alloc, World.size_setCell, World.size_drew] at hzwb); have HB2 := Lib.hid hb; obtain ⟨wb, rfl⟩ : ∃ x, x = w2 := ⟨_, rfl⟩))
          go_roundw
          case rel => exact ⟨k + 1, by omega, by go_num, by rw [HS.out, HN.out, hq]; rfl, by (have hB := HB.out; have hB1 := HB1.out; have hB2 := HB2.out; exact bel), by assumption, by assumption, by assumption⟩
          case measure => simp [intOf]; omega
      · have f1 : (yi == xi) = false := by simpa using e1
        have f2 : (xi == yi) = false := by simpa using fun h => e1 h.symm
        have hq : eqL ⟨yi, ys_⟩ x = false := by rw [HXE.out]; simp [eqL, e1]
        go_wp2_with (first | (with_reducible refine wp_region_grew2 (by kernel_rfl) (by kernel_rfl) ?_; intro w2 hb; obtain ⟨kwa_P_0, kwa_P_1⟩ := kp2 hb (w.heap.size) (.int .i64 xi) (.int .i64 xs_); have kwa_G0 : w2.cell? ⟨g, o + k * 2, none⟩ = some (.int .i64 yi) := kc hb; have kwa_G1 : w2.cell? ⟨g, o + k * 2 + 1, none⟩ = some (.int .i64 ys_) := kc hb; have xwa_P : w.heap.size < w2.heap.size := xc hb; have xwa_GG : g < w2.heap.size := xc hb; have hzwa := hb.size; (try simp only [World.size_alloc, World.size_setCell, World.size_drew] at hzwa); have HB1 := Lib.hid hb; obtain ⟨wa, rfl⟩ : ∃ x, x = w2 := ⟨_, rfl⟩; (repeat (go_big_quiet_step (fail))); refine wpQuiet_nil ?_; intro w2 hw'; have hb := grew_below hw'; clear hw'; obtain ⟨kwb_P_0, kwb_P_1⟩ := kp2 hb (w.heap.size) (.int .i64 xi) (.int .i64 xs_); have kwb_G0 : w2.cell? ⟨g, o + k * 2, none⟩ = some (.int .i64 yi) := kc hb; have kwb_G1 : w2.cell? ⟨g, o + k * 2 + 1, none⟩ = some (.int .i64 ys_) := kc hb; have xwb_P : w.heap.size < w2.heap.size := xc hb; have xwb_GG : g < w2.heap.size := xc hb; have hzwb := hb.size; (try simp only [World.size_alloc, World.size_setCell, World.size_drew] at hzwb); have HB2 := Lib.hid hb; obtain ⟨wb, rfl⟩ : ∃ x, x = w2 := ⟨_, rfl⟩))
        go_roundw
        case rel => exact ⟨k + 1, by omega, by go_num, by rw [HS.out, HN.out, hq]; rfl, by (have hB := HB.out; have hB1 := HB1.out; have hB2 := HB2.out; exact bel), by assumption, by assumption, by assumption⟩
        case measure => simp [intOf]; omega
    · have hlt' : ¬ (k : Int) < xs.length := by omega
      obtain rfl : k = xs.length := by omega
      go_wp2_with (first | (with_reducible refine wp_region_grew2 (by kernel_rfl) (by kernel_rfl) ?_; intro w2 hb; (first | have hn := nw4 hb hall (by exact zo) | have hn := nw3 hb hall (by exact zo) | have hn := nw2 hb hall (by exact zo) | have hn := nw1 hb hall (by exact zo) | have hn := nw0 hb hall (by exact zo)); obtain ⟨hc, hf, hn, hc0⟩ := hn; replace hall := hn; clear hn; have hz := hb.size; (try simp only [World.size_alloc, World.size_setCell, World.size_drew] at hz); have hx := hall; (try simp only [allLt, and_true] at hx); obtain ⟨w1, rfl⟩ : ∃ x, x = w2 := ⟨_, rfl⟩; (repeat (go_big_quiet_step (fail))); refine wpQuiet_nil ?_; intro w2 hw'; have hb := grew_below hw'; clear hw'; (first | have hn := nw4 hb hall (by exact zo) | have hn := nw3 hb hall (by exact zo) | have hn := nw2 hb hall (by exact zo) | have hn := nw1 hb hall (by exact zo) | have hn := nw0 hb hall (by exact zo)); obtain ⟨hc, hf, hn, hc0⟩ := hn; replace hall := hn; clear hn; have hz := hb.size; (try simp only [World.size_alloc, World.size_setCell, World.size_drew] at hz); have hx := hall; (try simp only [allLt, and_true] at hx); obtain ⟨w1, rfl⟩ : ∃ x, x = w2 := ⟨_, rfl⟩))
      all_goals go_ret
      all_goals (have hB := HB.out; exact ⟨-1, rfl, by rw [show hasL xs x = false from HN.out]; rfl, by exact bel⟩)

theorem lecz' (x y : Int) : (x ≤ y ∧ decide (x ≤ y) = true) ∨ (¬ x ≤ y ∧ decide (x ≤ y) = false) := by
  by_cases h : x ≤ y
  · exact .inl ⟨h, decide_eq_true h⟩
  · exact .inr ⟨h, decide_eq_false h⟩
theorem l_ContainsL (va : Value) (xs : List Lt) (x : Lt) (w : World) (ha : LtAt w va xs) : Calls Try.prog 24 #[va, .agg #[.int .i64 x.ix, .int .i64 x.sl]] w fun e w' => e = .returned (.bool (hasL xs x)) ∧ Below w.heap.size w w' := by
  have HA := Lib.hid ha; clear ha
  (have hall := all_nil w; go_enter Try.func24, Try.ntmps24)
  go_wp2_with fail
  refine (l_IndexL va xs x _ (HA.out.below (by exact bel))).mono ?_
  rintro e w2 ⟨i, rfl, hi, hb⟩
  have HI := Lib.hid hi; have HB := Lib.hid hb; clear hi hb
  rcases lecz' 0 i with ⟨b1, b2⟩ | ⟨b1, b2⟩
  all_goals go_wp2
  all_goals go_ret
  all_goals (have hB := HB.out; exact ⟨by rw [← HI.out, b2]; rfl, by exact bel⟩)

theorem i_copyLate (v : Value) (xs : List Lt) (hs : xs.length ≤ 1048576) (w : World) (ha : LtAt w v xs) : Calls Try.prog 23 #[v] w fun e w' => ∃ u, e = .returned u ∧ OwnLt w.heap.size w' u xs ∧ Below w.heap.size w w' := by
  have HA := Lib.hid ha
  obtain ⟨ao, ca, rfl, _, _⟩ := ha.shape
  clear ha
  (have hall := all_nil w; go_enter Try.func23, Try.ntmps23)
  go_wp2_with (first | (at_builtin; refine wpList_appendAll elemLt rfl _ _ rfl lenLt oneLt rfl (Own.empty' _ _ _ (w.heap.size) _ _ (by simp) (by exact zt)) (by exact zt) rfl (HA.out.below (by exact bel)) (by simp only [List.length_nil, maxLen]; omega) ?_; intro v2 w2 hown2 hgr2 hat2 hb; (try simp only [List.nil_append] at hown2); obtain ⟨v2o, v2c, rfl, -, -⟩ := hown2.shape; skip))
  go_ret
  exact ⟨_, rfl, hown2, by exact bel⟩
set_option maxRecDepth 20000 in
set_option maxHeartbeats 1600000 in
theorem i_LateAdd (va : Value) (xs : List Lt) (xi xs_ : Int) (hx : xs.length ≤ 1048576) (w : World) (ha : LtAt w va xs) : Calls Try.prog 7 #[va, .agg #[.int .i64 xi, .int .i64 xs_]] w (NewLB w (lateL xs ⟨xi, xs_⟩) (lateB xs ⟨xi, xs_⟩)) := by
  obtain ⟨ao, ca, rfl, _, hm⟩ := ha.shape
  have HA := Lib.hid ha
  clear ha hm
  cases hh : hasL xs ⟨xi, xs_⟩
  · have HH := Lib.hid hh
    by_cases h40 : xs.length < 40
    · have hE : lateB xs ⟨xi, xs_⟩ = true := by unfold lateB; rw [hh, decide_eq_true h40]; rfl
      have hL : lateL xs ⟨xi, xs_⟩ = xs ++ [⟨xi, xs_⟩] := by unfold lateL; rw [hE]; rfl
      rw [hE, hL]
      clear hE hL hh
      have h41 : decide ((40 : Int) ≤ xs.length) = false := by simp; omega
      (have hall := all_nil w; go_enter Try.func7, Try.ntmps7)
      go_wp2_with (first | (go_at_call 23; (refine (i_copyLate _ xs (by omega) _ (HA.out.below (by exact bel))).mono ?_; rintro e w2 ⟨v', rfl, hvo, hb⟩; obtain ⟨vo, vc, rfl, -, -⟩ := hvo.shape; have OV := Lib.hid hvo; have HB1 := Lib.hid hb; clear hvo; obtain ⟨kwa_0_0, kwa_0_1⟩ := kp2 hb (w.heap.size) (.int .i64 xi) (.int .i64 xs_); have xwa_0 : w.heap.size < w2.heap.size := xc hb; have hzwa := hb.size; (try simp only [World.size_alloc, World.size_setCell, World.size_drew] at hzwa); obtain ⟨wa, rfl⟩ : ∃ x, x = w2 := ⟨_, rfl⟩)) | (go_at_call 24; (refine (l_ContainsL _ xs (⟨xi, xs_⟩ : Lt) _ (HA.out.below (by exact bel))).mono ?_; rintro e w2 ⟨rfl, hb⟩; rw [HH.out]; have HB2 := Lib.hid hb; obtain ⟨kwb_0_0, kwb_0_1⟩ := kp2 hb (w.heap.size) (.int .i64 xi) (.int .i64 xs_); have xwb_0 : w.heap.size < w2.heap.size := xc hb; have hzwb := hb.size; (try simp only [World.size_alloc, World.size_setCell, World.size_drew] at hzwb); obtain ⟨wb, rfl⟩ : ∃ x, x = w2 := ⟨_, rfl⟩)) | (at_builtin; refine append1 elemLt rfl _ _ rfl lenLt oneLt rfl (Own.alloc (Own.below OV.out (by exact bel)) _) (by exact zt) rfl (⟨xi, xs_⟩ : Lt) (by intro j u hj; match j, hj with | 0, hj => (simp [fLt] at hj; subst hj; go_simp) | 1, hj => (simp [fLt] at hj; subst hj; go_simp) | j + 2, hj => simp [fLt] at hj) (by unfold maxLen; omega) ?_; intro v2 w2 hown2 _ hb2; have OR := Lib.hid hown2; have HB3 := Lib.hid hb2; clear hown2))
      skip
      go_ret2
      have hB1 := HB1.out; have hB2 := HB2.out; have hB3 := HB3.out
      exact ⟨_, rfl, OR.out.mono (by (try simp only [World.size_alloc]); omega), by exact bel⟩
    · have hE : lateB xs ⟨xi, xs_⟩ = false := by unfold lateB; rw [hh, decide_eq_false h40]; rfl
      have hL : lateL xs ⟨xi, xs_⟩ = xs := by unfold lateL; rw [hE]; rfl
      rw [hE, hL]
      clear hE hL hh
      have h41 : decide ((40 : Int) ≤ xs.length) = true := by simp; omega
      (have hall := all_nil w; go_enter Try.func7, Try.ntmps7)
      go_wp2_with (first | (go_at_call 23; (refine (i_copyLate _ xs (by omega) _ (HA.out.below (by exact bel))).mono ?_; rintro e w2 ⟨v', rfl, hvo, hb⟩; obtain ⟨vo, vc, rfl, -, -⟩ := hvo.shape; have OV := Lib.hid hvo; have HB1 := Lib.hid hb; clear hvo; obtain ⟨kwa_0_0, kwa_0_1⟩ := kp2 hb (w.heap.size) (.int .i64 xi) (.int .i64 xs_); have xwa_0 : w.heap.size < w2.heap.size := xc hb; have hzwa := hb.size; (try simp only [World.size_alloc, World.size_setCell, World.size_drew] at hzwa); obtain ⟨wa, rfl⟩ : ∃ x, x = w2 := ⟨_, rfl⟩)) | (go_at_call 24; (refine (l_ContainsL _ xs (⟨xi, xs_⟩ : Lt) _ (HA.out.below (by exact bel))).mono ?_; rintro e w2 ⟨rfl, hb⟩; rw [HH.out]; have HB2 := Lib.hid hb; obtain ⟨kwb_0_0, kwb_0_1⟩ := kp2 hb (w.heap.size) (.int .i64 xi) (.int .i64 xs_); have xwb_0 : w.heap.size < w2.heap.size := xc hb; have hzwb := hb.size; (try simp only [World.size_alloc, World.size_setCell, World.size_drew] at hzwb); obtain ⟨wb, rfl⟩ : ∃ x, x = w2 := ⟨_, rfl⟩)))
      go_ret2
      have hB1 := HB1.out; have hB2 := HB2.out
      exact ⟨_, rfl, (by have h := Own.below OV.out (w' := wb) (by exact bel); exact h.mono (by (try simp only [World.size_alloc]); omega)), by exact bel⟩
  · have HH := Lib.hid hh
    have hE : lateB xs ⟨xi, xs_⟩ = false := by unfold lateB; rw [hh]; rfl
    have hL : lateL xs ⟨xi, xs_⟩ = xs := by unfold lateL; rw [hE]; rfl
    rw [hE, hL]
    clear hE hL hh
    (have hall := all_nil w; go_enter Try.func7, Try.ntmps7)
    go_wp2_with (first | (go_at_call 23; (refine (i_copyLate _ xs (by omega) _ (HA.out.below (by exact bel))).mono ?_; rintro e w2 ⟨v', rfl, hvo, hb⟩; obtain ⟨vo, vc, rfl, -, -⟩ := hvo.shape; have OV := Lib.hid hvo; have HB1 := Lib.hid hb; clear hvo; obtain ⟨kwa_0_0, kwa_0_1⟩ := kp2 hb (w.heap.size) (.int .i64 xi) (.int .i64 xs_); have xwa_0 : w.heap.size < w2.heap.size := xc hb; have hzwa := hb.size; (try simp only [World.size_alloc, World.size_setCell, World.size_drew] at hzwa); obtain ⟨wa, rfl⟩ : ∃ x, x = w2 := ⟨_, rfl⟩)) | (go_at_call 24; (refine (l_ContainsL _ xs (⟨xi, xs_⟩ : Lt) _ (HA.out.below (by exact bel))).mono ?_; rintro e w2 ⟨rfl, hb⟩; rw [HH.out]; have HB2 := Lib.hid hb; obtain ⟨kwb_0_0, kwb_0_1⟩ := kp2 hb (w.heap.size) (.int .i64 xi) (.int .i64 xs_); have xwb_0 : w.heap.size < w2.heap.size := xc hb; have hzwb := hb.size; (try simp only [World.size_alloc, World.size_setCell, World.size_drew] at hzwb); obtain ⟨wb, rfl⟩ : ∃ x, x = w2 := ⟨_, rfl⟩)))
    go_ret2
    have hB1 := HB1.out; have hB2 := HB2.out
    exact ⟨_, rfl, (by have h := Own.below OV.out (w' := wb) (by exact bel); exact h.mono (by (try simp only [World.size_alloc]); omega)), by exact bel⟩


end Go.Proofs.Ytobechjagckdfaa
/-
  What the late frees leave on the way: plain laws.
-/
set_option linter.unusedVariables false
set_option linter.unusedSimpArgs false
namespace Go.Proofs.Ytobechjagckdfaa
open Go.RowKit
theorem late_step {k m : Nat} (hk : k < 3) (hm : m < 4) : lateL (lateTo (4 * k + m)) ⟨(k : Int), (m : Int)⟩ = lateTo (4 * k + m + 1) := by
  have h1 : k = 0 ∨ k = 1 ∨ k = 2 := by omega
  have h2 : m = 0 ∨ m = 1 ∨ m = 2 ∨ m = 3 := by omega
  rcases h1 with rfl | rfl | rfl <;> rcases h2 with rfl | rfl | rfl | rfl <;> rfl
theorem late_twice : lateB [⟨1, 0⟩] ⟨1, 0⟩ = false := rfl
theorem laTo_leftN (xs : List Lt) (t : LA) : ∀ k, (laTo xs k t).left.length ≤ t.left.length + k
  | 0 => Nat.le_refl _
  | k + 1 => by
    have ih := laTo_leftN xs t k
    rw [laTo]
    unfold laStep
    split
    · dsimp only
      split
      · rw [List.length_append, List.length_singleton]; omega
      · omega
    · omega
theorem late_mid {K : Ker} {sp : List Sp} {c : Int} {n : Nat} (h : SInv K sp c n) {t1 : LA} (h1 : t1 = laRun (lateTo (4 * sp.length)) K sp) :
    t1.sp.length = sp.length ∧ t1.left.length ≤ 4 * sp.length ∧ (∀ k, k ≤ sp.length → SInv (setTwo sp k t1.k) t1.sp c n) ∧ ∀ (q : Nat) (s : Sp), sp[q]? = some s → ∃ s', t1.sp[q]? = some s' ∧ s'.p = s.p := by
  have hpairs : PairsOf (lateTo (4 * sp.length)) sp.length := by
    intro x hx
    obtain ⟨q, hq⟩ := List.getElem?_of_mem hx
    have hql := getx_lt hq
    rw [lateTo_len] at hql
    rw [lateTo_get _ q hql] at hq
    cases hq
    exact ⟨q / 4, q % 4, rfl, by omega, by omega⟩
  obtain ⟨r1, -, -, -⟩ := la_many (t := ⟨K, sp, []⟩) h hpairs (lateTo (4 * sp.length)).length (Nat.le_refl _)
  have e1 : laTo (lateTo (4 * sp.length)) (lateTo (4 * sp.length)).length ⟨K, sp, []⟩ = t1 := h1.symm
  have hleft := laTo_leftN (lateTo (4 * sp.length)) ⟨K, sp, []⟩ (lateTo (4 * sp.length)).length
  rw [e1] at r1 hleft
  rw [lateTo_len] at hleft
  have hps : ∀ (q : Nat) (s : Sp), sp[q]? = some s → ∃ s', t1.sp[q]? = some s' ∧ s'.p = s.p := by
    intro q s hs
    obtain ⟨s', hs'⟩ := getx (xs := t1.sp) (k := q) (by rw [r1.len]; exact getx_lt hs)
    obtain ⟨s0, a1, a2, -⟩ := r1.mono q s' hs'
    dsimp only at a1
    rw [hs] at a1; cases a1
    exact ⟨s', hs', a2⟩
  exact ⟨r1.len, by simpa using hleft, fun k hk => (setTwo_inv r1.inv hps k hk).1, hps⟩
/-- One page is made writable again. -/
theorem late_set {K : Ker} {sp sp1 : List Sp} {c : Int} {n q : Nat} (h : SInv (setTwo sp q K) sp1 c n) (hps : ∀ (q : Nat) (s : Sp), sp[q]? = some s → ∃ s', sp1[q]? = some s' ∧ s'.p = s.p) (hq : q < sp.length) :
    ∃ (p : Nat) (e : Ent) (s : Sp), sp[q]? = some s ∧ s.p = (p : Int) ∧ (setTwo sp q K).m.ents[p]? = some e ∧ 0 ≤ e.f ∧ pageEntry (setTwo sp q K).m.ents (p : Int) = e ∧ setTwo sp (q + 1) K = ⟨⟨(setTwo sp q K).m.f, (setTwo sp q K).m.ents.set p ⟨2, e.f⟩⟩, (setTwo sp q K).calls, (setTwo sp q K).refuse⟩ := by
  obtain ⟨s, hs⟩ := getx hq
  obtain ⟨s1, hs1, hpp⟩ := hps q s hs
  obtain ⟨p, b1, hsp, -, -, e, he, -⟩ := h.span q s1 hs1
  have hp0 : s.p = (p : Int) := by rw [← hpp, hsp]
  refine ⟨p, e, s, hs, hp0, he, (h.ok.ent p e he).2.2.1, pageEntry_at he, ?_⟩
  rw [setTwo, getD_of hs]
  unfold set2
  rw [hp0, pageEntry_at he, Int.toNat_natCast]
/-- The table of a kernel in a box is put anew. -/
theorem KIn.setE {B n : Nat} {w : World} {gk : Nat} {y : KV} {K : Ker} {v : Value} {es : List Ent} (h : KIn B w gk y K) (ho : OwnEnt n w v es) (hg : gk < n) (hb : ∀ b ∈ blocks y.all, b < n) (hB : B ≤ n) :
    KIn B (w.setCell ⟨gk, 2, none⟩ v) gk ⟨⟨y.m.f, v⟩, y.r⟩ ⟨⟨K.m.f, es⟩, K.calls, K.refuse⟩ := by
  obtain ⟨xg, c0, c1, c2, c3, c4, f0, f1, f2, f3, f4⟩ := h.box
  have hv : ∀ b ∈ blocks [v], n ≤ b ∧ b < w.heap.size := Own.lts ho
  have hnv : gk ∉ blocks [v] := fun hm => by have := (hv gk hm).1; omega
  have ht : Touch [gk] w (w.setCell ⟨gk, 2, none⟩ v) := touch_bx (Touch.refl _ _)
  have nd1 := h.own.nd
  have sF : ∀ b ∈ blocks y.m.f.all, b ∈ blocks y.all := fun b hb => mem_all hb
  have sR : ∀ b ∈ blocks [y.r], b ∈ blocks y.all := fun b hb => sub_left [y.r] _ b hb
  refine ⟨⟨by go_simp, by go_simp, by go_simp, by go_simp, by go_simp, by go_simp, by go_simp, by go_simp, by go_simp, by go_simp, by go_simp⟩, ⟨⟨?_, ?_, ?_⟩, ?_, ?_⟩, h.hB, ?_⟩
  · exact h.own.m.f.touch ht fun b hb hm => h.ne (by rw [← List.mem_singleton.1 hm]; exact sF b hb)
  · exact (Own.touch ho ht fun b hb hm => hnv (by rw [← List.mem_singleton.1 hm]; exact mem_one hb)).mono hB
  · exact nodup_blocks (l := [v]) (nodup_one _) h.own.m.f.nd fun b hb' hm => by have h1 := (hv b hb').1; have h2 := hb b (sF b hm); omega
  · exact Own.touch h.own.ref ht fun b hb hm => h.ne (by rw [← List.mem_singleton.1 hm]; exact sR b (mem_one hb))
  · refine nodup_blocks (l := [y.r]) (nodup_one _) (nodup_blocks (l := [v]) (nodup_one _) h.own.m.f.nd fun b hb' hm => by have h1 := (hv b hb').1; have h2 := hb b (sF b hm); omega) fun b hb' hm => ?_
    rw [show (MV.all ⟨y.m.f, v⟩) = [v] ++ y.m.f.all from rfl, blocks_append, List.mem_append] at hm
    rcases hm with hm | hm
    · have h1 := (hv b hm).1; have h2 := hb b (sR b hb'); omega
    · exact nodup_apart (l := [y.r]) nd1 b hb' (sub_right _ _ b hm)
  · intro hm
    rw [show (KV.all ⟨⟨y.m.f, v⟩, y.r⟩) = [y.r] ++ ([v] ++ y.m.f.all) from rfl, blocks_append, blocks_append, List.mem_append, List.mem_append] at hm
    rcases hm with hm | hm | hm
    · exact h.ne (sR gk hm)
    · exact hnv hm
    · exact h.ne (sF gk hm)
end Go.Proofs.Ytobechjagckdfaa
/-
  A law's argument that is a list of spans.
-/
set_option linter.unusedVariables false
set_option linter.unusedSimpArgs false
namespace Go.Proofs.Ytobechjagckdfaa
open Go.ChangeShapes Go.WideShapes Go.ChangeAt Go.RowKit Go.Deep
theorem list_of {α : Type} (R : Nat → α → Prop) : ∀ n, (∀ i, i < n → ∃ x, R i x) → ∃ xs : List α, xs.length = n ∧ ∀ i (hi : i < xs.length), R i xs[i]
  | 0, _ => ⟨[], rfl, fun i hi => absurd hi (Nat.not_lt_zero _)⟩
  | n + 1, h => by
    obtain ⟨xs, hl, hx⟩ := list_of R n (fun i hi => h i (by omega))
    obtain ⟨x, hr⟩ := h n (by omega)
    refine ⟨xs ++ [x], by simp [hl], fun i hi => ?_⟩
    rcases Nat.lt_or_ge i n with h1 | h1
    · rw [List.getElem_append_left (by omega)]; exact hx i (by omega)
    · have : i = n := by simp [hl] at hi; omega
      subst this
      rw [List.getElem_append_right (by omega)]
      simpa [hl] using hr
section
variable {H : Type} {enc : TypeId × Value → H} {P : Program} {W : World} {base : Nat} {t e ti : TypeId} {v : Value} {d : DataW H} {p : List MemPlace}
theorem spans_open {f0 f1 f2 : Field} (ht : P.underlying t = some (.slice e)) (he : P.underlying e = some (.struct #[f0, f1, f2])) (hone : oneCellFields P #[f0, f1, f2] = true) (hC : P.cellsOf e = 3) (hi : P.underlying ti = some (.int .i64))
    (h0 : f0.type = ti) (h1 : f1.type = ti) (h2 : f2.type = ti)
    (hok : Value.okWide P W .any base t v) (h : DataW.Trod enc P W 0 (fun _ => true) true t v d p) : ∃ xs, SpansAt W v xs := by
  obtain ⟨ao, n, cap, rfl, hl, hm, hc⟩ := structs_open ht he hone hC (by simp) hok h
  obtain ⟨xs, hlen, hx⟩ := list_of (fun i (s : Sp) => ∃ g o, ao = some ⟨g, o, none⟩ ∧ g < W.heap.size ∧ W.cell? ⟨g, o + i * 3, none⟩ = some (.int .i64 s.p) ∧ W.cell? ⟨g, o + i * 3 + 1, none⟩ = some (.int .i64 s.c) ∧ W.cell? ⟨g, o + i * 3 + 2, none⟩ = some (.int .i64 s.b)) n (fun i hi' => by
    obtain ⟨b, o, rfl, hb, hf⟩ := hc i hi'
    obtain ⟨u0, m0, y0, c0, t0⟩ := hf 0 f0 rfl
    obtain ⟨u1, m1, y1, c1, t1⟩ := hf 1 f1 rfl
    obtain ⟨u2, m2, y2, c2, t2⟩ := hf 2 f2 rfl
    rw [h0] at t0; rw [h1] at t1; rw [h2] at t2
    obtain ⟨x0, e0, _, _⟩ := DataW.trod_int hi t0
    obtain ⟨x1, e1, _, _⟩ := DataW.trod_int hi t1
    obtain ⟨x2, e2, _, _⟩ := DataW.trod_int hi t2
    simp only [List.cons.injEq, and_true] at e0 e1 e2
    subst e0 e1 e2
    exact ⟨⟨x0, x1, x2⟩, b, o, rfl, hb, c0, c1, c2⟩)
  subst hlen
  exact ⟨xs, ao, cap, rfl, hl, hm, hx⟩
end
end Go.Proofs.Ytobechjagckdfaa
/-
  The laws' functions on slices of spans: marks.
-/
set_option linter.unusedVariables false
set_option linter.unusedSimpArgs false
namespace Go.Proofs.Ytobechjagckdfaa
open Go.ChangeShapes Go.WideShapes Go.ChangeAt Go.RowKit Go.Deep
abbrev SpAt (w : World) (v : Value) (xs : List Sp) : Prop := SlAt 3 fSpan w v xs
theorem SpAt.open {w : World} {v : Value} {xs : List Sp} (h : SpAt w v xs) : ∃ ao cap, v = .slice ao xs.length cap ∧ xs.length ≤ cap ∧ cap ≤ maxLen ∧
    ∀ i x, xs[i]? = some x → ∃ g o, ao = some ⟨g, o, none⟩ ∧ g < w.heap.size ∧ w.cell? ⟨g, o + i * 3, none⟩ = some (.int .i64 x.p) ∧ w.cell? ⟨g, o + i * 3 + 1, none⟩ = some (.int .i64 x.c) ∧ w.cell? ⟨g, o + i * 3 + 2, none⟩ = some (.int .i64 x.b) := SlAt.open3 h fun _ => rfl
theorem OwnSp.slotF {B : Nat} {w : World} {g n cap : Nat} {xs : List Sp} (h : OwnSp B w (.slice (some ⟨g, 0, none⟩) n cap) xs) {i : Nat} {x : Sp} (hi : xs[i]? = some x) : B ≤ g ∧ g < w.heap.size ∧ w.cell? ⟨g, i * 3, none⟩ = some (.int .i64 x.p) ∧ w.frozen? ⟨g, i * 3, none⟩ = false ∧ w.cell? ⟨g, i * 3 + 1, none⟩ = some (.int .i64 x.c) ∧ w.frozen? ⟨g, i * 3 + 1, none⟩ = false ∧ w.cell? ⟨g, i * 3 + 2, none⟩ = some (.int .i64 x.b) ∧ w.frozen? ⟨g, i * 3 + 2, none⟩ = false := by
  obtain ⟨hB, hg, hz, hc⟩ := Own.slot h lenSpan hi
  exact ⟨hB, hg, by simpa [fSpan] using hc 0 (.int .i64 x.p), hz _, by simpa [fSpan] using hc 1 (.int .i64 x.c), hz _, by simpa [fSpan] using hc 2 (.int .i64 x.b), hz _⟩
def mkSp (k : Int) : Sp := ⟨k, k + 1, k + 1 + 1⟩



theorem SpansAt.shape {w : World} {v : Value} {xs : List Sp} (h : SpansAt w v xs) : ∃ ao cap, v = .slice ao xs.length cap ∧ xs.length ≤ cap ∧ cap ≤ maxLen := by
  obtain ⟨ao, cap, rfl, h1, h2, _⟩ := h
  exact ⟨ao, cap, rfl, h1, h2⟩
theorem SpAt.spans {w : World} {v : Value} {xs : List Sp} (h : SpAt w v xs) : SpansAt w v xs := by
  obtain ⟨ao, cap, rfl, h1, h2, hr⟩ := SpAt.open h
  refine ⟨ao, cap, rfl, h1, h2, fun i hi => ?_⟩
  obtain ⟨g, o, q⟩ := hr i _ (List.getElem?_eq_getElem hi)
  exact ⟨g, o, q⟩
end Go.Proofs.Ytobechjagckdfaa
