/-
  Texts put together: KStep.
-/
import Derived.Test.YtkkebpcclklmcaaGB16
import Derived.Test.YtkkebpcclklmcaaGB9
/-
  What the steps of a kernel do to its data, and what they leave in memory.
-/
set_option linter.unusedVariables false
set_option linter.unusedSimpArgs false
namespace Go.Proofs.Ytkkebpcclklmcaa
open Go.RowKit
/-! The data. -/
def dropF (F : Frm) (fr : Nat) : Frm := ⟨F.cells.set fr (List.replicate 16 0), F.used.set fr false⟩
def withF (K : Ker) (F : Frm) : Ker := ⟨⟨F, K.m.ents⟩, K.calls, K.refuse⟩
def dropK (K : Ker) (fr : Int) : Ker := if pagesOn K.m.ents fr = [] then withF K (dropF K.m.f fr.toNat) else K
def unmapB (K : Ker) (p : Int) : Bool := mappedB K.m.ents p
def kUnmapK (K : Ker) (p : Int) : Ker := if canCall K && mappedB K.m.ents p then dropK (setEnt K p ⟨0, 0⟩) (pageEntry K.m.ents p).f else K
def onB (K : Ker) (p o : Int) : Bool := grantedB K && mappedB K.m.ents p && mappedB K.m.ents o && (p != o)
def mapOnS (K : Ker) (p o : Int) : Ker := if onB K p o then dropK (setEnt (countedK K) p ⟨2, (pageEntry K.m.ents o).f⟩) (pageEntry K.m.ents p).f else countedK K
def kMapOnK (K : Ker) (p o : Int) : Ker := if canCall K then mapOnS K p o else K
def freeIx (us : List Bool) : Int := match us.findIdx? (fun b => !b) with
  | some i => i
  | none => -1
def newB (K : Ker) (p : Int) : Bool := grantedB K && between p 0 (K.m.ents.length - 1) && !mappedB K.m.ents p && decide (0 ≤ freeIx K.m.f.used)
def mapNewS (K : Ker) (p : Int) : Ker := if newB K p then setEnt (withF (countedK K) ⟨K.m.f.cells, K.m.f.used.set (freeIx K.m.f.used).toNat true⟩) p ⟨2, freeIx K.m.f.used⟩ else countedK K
def kMapNewK (K : Ker) (p : Int) : Ker := if canCall K then mapNewS K p else K
theorem freeIx_at {us : List Bool} {k : Nat} (h : allTo (fun j => us.getD j false) k = true) (hk : us[k]? = some false) : freeIx us = k := by
  have e : us.findIdx? (fun b => !b) = some k := by
    have hlt := getx_lt hk
    rw [List.getElem?_eq_getElem hlt] at hk
    rw [List.findIdx?_eq_some_iff_getElem]
    refine ⟨hlt, by rw [Option.some.inj hk]; rfl, fun j hj => ?_⟩
    have := allTo_iff.1 h j hj
    rw [List.getD_eq_getElem?_getD, List.getElem?_eq_getElem (by omega)] at this
    simpa using this
  unfold freeIx
  rw [e]
theorem freeIx_none {us : List Bool} (h : allTo (fun j => us.getD j false) us.length = true) : freeIx us = -1 := by
  have e : us.findIdx? (fun b => !b) = none := by
    rw [List.findIdx?_eq_none_iff]
    intro x hx
    obtain ⟨j, hj⟩ := List.getElem?_of_mem hx
    have := allTo_iff.1 h j (getx_lt hj)
    rw [getD_of hj] at this
    rw [this]; rfl
  unfold freeIx
  rw [e]
theorem freeIx_lt {us : List Bool} (h : 0 ≤ freeIx us) : ∃ k : Nat, freeIx us = k ∧ us[k]? = some false := by
  unfold freeIx at h ⊢
  cases e : us.findIdx? (fun b => !b) with
  | none => rw [e] at h; exact absurd h (by decide)
  | some k =>
    obtain ⟨hlt, h1, _⟩ := List.findIdx?_eq_some_iff_getElem.1 e
    refine ⟨k, rfl, ?_⟩
    rw [List.getElem?_eq_getElem hlt]
    simpa using h1
theorem freeIx_ge (us : List Bool) : -1 ≤ freeIx us := by
  unfold freeIx
  split <;> omega
/-! Numbers of cells. -/
theorem lensTo_set (rows : List (List Int)) (i : Nat) (r : List Int) : ∀ k, lensTo (rows.set i r) k ≤ lensTo rows k + (if i < k then r.length else 0)
  | 0 => by simp [lensTo]
  | k + 1 => by
    have ih := lensTo_set rows i r k
    rw [lensTo, lensTo]
    by_cases h : i = k
    · subst h
      rw [if_neg (by omega)] at ih
      rw [if_pos (by omega), List.getD_eq_getElem?_getD, List.getElem?_set]
      rw [if_pos rfl]
      split
      · simp; omega
      · simp; omega
    · rw [List.getD_eq_getElem?_getD, List.getElem?_set, if_neg h, ← List.getD_eq_getElem?_getD]
      by_cases h1 : i < k
      · rw [if_pos h1] at ih; rw [if_pos (by omega)]; omega
      · rw [if_neg h1] at ih; rw [if_neg (by omega)]; omega
theorem tot_set (rows : List (List Int)) (i : Nat) (r : List Int) : tot (rows.set i r) ≤ tot rows + r.length := by
  have h := lensTo_set rows i r rows.length
  unfold tot
  rw [List.length_set]
  split at h <;> omega
theorem cntK_set (K : Ker) (i : Nat) (r : List Int) (us : List Bool) (es : List Ent) (c : Int) (hu : us.length = K.m.f.used.length) (he : es.length = K.m.ents.length) : cntK ⟨⟨⟨K.m.f.cells.set i r, us⟩, es⟩, c, K.refuse⟩ ≤ cntK K + r.length := by
  have := tot_set K.m.f.cells i r
  simp only [cntK, cntM, cntF, hu, he]
  omega
theorem cnt_drop (K : Ker) (fr : Int) : cntK (dropK K fr) ≤ cntK K + 16 := by
  unfold dropK
  split
  · have h := cntK_set K fr.toNat (List.replicate 16 0) (K.m.f.used.set fr.toNat false) K.m.ents K.calls (by simp) rfl
    simpa [withF, dropF] using h
  · omega
theorem cnt_setEnt (K : Ker) (p : Int) (e : Ent) : cntK (setEnt K p e) = cntK K := by simp [setEnt, cntK, cntM, cntF]
/-! What lies in memory. -/
section
variable {w w' : World} {B : Nat} {S : List Nat}
theorem mem_all {y : KV} {g : Nat} (h : g ∈ blocks y.m.f.all) : g ∈ blocks y.all := sub_right _ _ g (sub_right _ _ g h)
theorem Own.mem {v : Value} {g n cap : Nat} (h : v = .slice (some ⟨g, 0, none⟩) n cap) : v.ownBlock = some g := by rw [h]; rfl
/-- The frames have been written: all else stays. -/
theorem KOwn.setF {y : KV} {K : Ker} {f' : FV} {F' : Frm} (h : KOwn B w y K) (ht : Touch S w w') (hS : ∀ g ∈ S, g ∈ blocks y.m.f.all) (hf : FOwn B w' f' F') (hn : ∀ g ∈ blocks f'.all, g ∈ blocks y.m.f.all ∨ g ∉ blocks y.all) :
    KOwn B w' ⟨⟨f', y.m.e⟩, y.r⟩ (withF K F') := by
  have ap1 : ∀ g, y.m.e.ownBlock = some g → g ∉ blocks y.m.f.all := fun g hg => nodup_apart (l := [y.m.e]) h.m.nd g (mem_one hg)
  have ap2 : ∀ g, y.r.ownBlock = some g → g ∉ blocks y.m.all := fun g hg => nodup_apart (l := [y.r]) h.nd g (mem_one hg)
  have ine : ∀ g, y.m.e.ownBlock = some g → g ∈ blocks y.all := fun g hg => sub_right _ _ g (sub_left [y.m.e] _ g (mem_one hg))
  have inr : ∀ g, y.r.ownBlock = some g → g ∈ blocks y.all := fun g hg => sub_left [y.r] _ g (mem_one hg)
  have e' := h.m.ents.touch ht fun g hg hs => ap1 g hg (hS g hs)
  have r' := h.ref.touch ht fun g hg hs => ap2 g hg (sub_right _ _ g (hS g hs))
  have hne : ∀ g, y.m.e.ownBlock = some g → g ∉ blocks f'.all := fun g hg hm => (hn g hm).elim (ap1 g hg) fun h2 => h2 (ine g hg)
  have hnr : ∀ g, y.r.ownBlock = some g → g ∉ blocks f'.all := fun g hg hm => (hn g hm).elim (fun h1 => ap2 g hg (sub_right _ _ g h1)) fun h2 => h2 (inr g hg)
  have one : ∀ (v : Value) (l : List Value), (∀ g, v.ownBlock = some g → g ∉ blocks l) → ∀ g ∈ blocks [v], g ∉ blocks l := fun v l hv g hg => by
    obtain ⟨u, hu, hb⟩ := mem_blocks.1 hg
    simp only [List.mem_singleton] at hu
    subst hu
    exact hv g hb
  refine ⟨⟨hf, e', nodup_blocks (l := [y.m.e]) (nodup_one _) hf.nd (one _ _ hne)⟩, r', ?_⟩
  refine nodup_blocks (l := [y.r]) (nodup_one _) (nodup_blocks (l := [y.m.e]) (nodup_one _) hf.nd (one _ _ hne)) (one _ _ fun g hg hm => ?_)
  rw [show (KV.mk ⟨f', y.m.e⟩ y.r).m.all = [y.m.e] ++ f'.all from rfl, blocks_append, List.mem_append] at hm
  rcases hm with hm | hm
  · exact ap2 g hg (sub_left [y.m.e] _ g hm)
  · exact hnr g hg hm
theorem KIn.setF {g : Nat} {y : KV} {K : Ker} {f' : FV} {F' : Frm} (h : KIn B w g y K) (ht : Touch S w w') (hS : ∀ b ∈ S, b ∈ blocks y.m.f.all) (hf : FOwn B w' f' F') (hn : ∀ b ∈ blocks f'.all, b ∈ blocks y.m.f.all ∨ (b ∉ blocks y.all ∧ b ≠ g)) (hc : f'.c = y.m.f.c) (hu : f'.u = y.m.f.u) :
    KIn B w' g ⟨⟨f', y.m.e⟩, y.r⟩ (withF K F') := by
  have hg : g ∉ S := fun hs => h.ne (mem_all (hS g hs))
  have b := h.box.touch ht hg
  refine ⟨⟨b.lt, by rw [hc]; exact b.c0, by rw [hu]; exact b.c1, b.c2, b.c3, b.c4, b.f0, b.f1, b.f2, b.f3, b.f4⟩, KOwn.setF h.own ht hS hf fun x hx => (hn x hx).imp_right And.left, h.hB, fun hm => ?_⟩
  rw [show (KV.mk ⟨f', y.m.e⟩ y.r).all = [y.r] ++ ([y.m.e] ++ f'.all) from rfl, blocks_append, blocks_append, List.mem_append, List.mem_append] at hm
  rcases hm with hm | hm | hm
  · exact h.ne (sub_left [y.r] _ g hm)
  · exact h.ne (sub_right _ _ g (sub_left [y.m.e] _ g hm))
  · rcases hn g hm with h1 | ⟨_, h1⟩
    · exact h.ne (mem_all h1)
    · exact h1 rfl
/-- The entries have been written. -/
theorem KIn.setEnts {g : Nat} {y : KV} {K : Ker} {es : List Ent} (h : KIn B w g y K) (hgr : w.grownBy w' y.m.e.ownBlock) (he : OwnEnt B w' y.m.e es) : KIn B w' g y ⟨⟨K.m.f, es⟩, K.calls, K.refuse⟩ :=
  ⟨h.box.touch (S := blocks [y.m.e]) (grown_touch hgr fun b hb => mem_one hb) fun hm => h.ne (sub_right [y.r] _ g (sub_left [y.m.e] _ g hm)), h.own.setEnts hgr he, h.hB, h.ne⟩
theorem OwnEnt.put {v : Value} {es : List Ent} {ge n cap : Nat} (h : OwnEnt B w v es) (hv : v = .slice (some ⟨ge, 0, none⟩) n cap) {i : Nat} (hi : i < es.length) (m f : Int) :
    OwnEnt B ((w.setCell ⟨ge, i * 2, none⟩ (.int .i64 m)).setCell ⟨ge, i * 2 + 1, none⟩ (.int .i64 f)) v (es.set i ⟨m, f⟩) ∧ w.grownBy ((w.setCell ⟨ge, i * 2, none⟩ (.int .i64 m)).setCell ⟨ge, i * 2 + 1, none⟩ (.int .i64 f)) v.ownBlock :=
  Own.setk lenEnt h hv i hi ⟨m, f⟩
theorem KIn.setEnt {g : Nat} {y : KV} {K : Ker} {ge n cap : Nat} (h : KIn B w g y K) (hv : y.m.e = .slice (some ⟨ge, 0, none⟩) n cap) {i : Nat} (hi : i < K.m.ents.length) (m f : Int) :
    KIn B ((w.setCell ⟨ge, i * 2, none⟩ (.int .i64 m)).setCell ⟨ge, i * 2 + 1, none⟩ (.int .i64 f)) g y (setEnt K i ⟨m, f⟩) := by
  have S := OwnEnt.put h.own.m.ents hv hi m f
  exact h.setEnts S.2 S.1
theorem KIn.neU {g b n c : Nat} {y : KV} {K : Ker} (h : KIn B w g y K) (hu : y.m.f.u = .slice (some ⟨b, 0, none⟩) n c) : g ≠ b ∧ b ≠ g := by
  have : g ≠ b := fun e => h.ne (mem_all (sub_left [y.m.f.u] _ g (mem_one (by rw [e]; exact Own.mem hu))))
  exact ⟨this, this.symm⟩
theorem KIn.neC {g b n c : Nat} {y : KV} {K : Ker} (h : KIn B w g y K) (hu : y.m.f.c = .slice (some ⟨b, 0, none⟩) n c) : g ≠ b ∧ b ≠ g := by
  have : g ≠ b := fun e => h.ne (mem_all (sub_right [y.m.f.u] _ g (mem_blocks.2 ⟨y.m.f.c, List.mem_cons_self, by rw [e]; exact Own.mem hu⟩)))
  exact ⟨this, this.symm⟩
theorem KIn.neV {g b n c i : Nat} {y : KV} {K : Ker} {v : Value} (h : KIn B w g y K) (hi : y.m.f.vs[i]? = some v) (hu : v = .slice (some ⟨b, 0, none⟩) n c) : g ≠ b ∧ b ≠ g := by
  have : g ≠ b := fun e => h.ne (mem_all (sub_right [y.m.f.u] _ g (mem_blocks.2 ⟨v, List.mem_cons_of_mem _ (List.mem_of_getElem? hi), by rw [e]; exact Own.mem hu⟩)))
  exact ⟨this, this.symm⟩
theorem KIn.neE {g b n c : Nat} {y : KV} {K : Ker} (h : KIn B w g y K) (hu : y.m.e = .slice (some ⟨b, 0, none⟩) n c) : g ≠ b ∧ b ≠ g := by
  have : g ≠ b := fun e => h.ne (sub_right [y.r] _ g (sub_left [y.m.e] _ g (mem_one (by rw [e]; exact Own.mem hu))))
  exact ⟨this, this.symm⟩
theorem FOwn.neUC {b n c b' n' c' : Nat} {x : FV} {F : Frm} (h : FOwn B w x F) (hu : x.u = .slice (some ⟨b, 0, none⟩) n c) (hc : x.c = .slice (some ⟨b', 0, none⟩) n' c') : b ≠ b' ∧ b' ≠ b := by
  have : b ≠ b' := fun e => nodup_apart (l := [x.u]) h.nd b (mem_one (Own.mem hu)) (mem_blocks.2 ⟨x.c, List.mem_cons_self, by rw [e]; exact Own.mem hc⟩)
  exact ⟨this, this.symm⟩
/-- A frame's mark is stored. -/
theorem FOwn.setUsed {x : FV} {F : Frm} {g n cap : Nat} (h : FOwn B w x F) (hu : x.u = .slice (some ⟨g, 0, none⟩) n cap) (i : Nat) (b : Bool) :
    FOwn B (w.setCell ⟨g, i, none⟩ (.bool b)) x ⟨F.cells, F.used.set i b⟩ ∧ Touch (blocks [x.u]) w (w.setCell ⟨g, i, none⟩ (.bool b)) := by
  have S := Own.set1 lenBool h.used hu i (.bool b) b rfl
  have ap := nodup_apart (l := [x.u]) h.nd
  have ht : Touch (blocks [x.u]) w (w.setCell ⟨g, i, none⟩ (.bool b)) := grown_touch S.2 fun g hg => mem_one hg
  exact ⟨⟨h.rows.touch ht fun g hg hm => ap g hm hg, S.1, h.nd⟩, ht⟩
/-- A row is put in the place of another. -/
theorem FOwn.setRowVal {x : FV} {F : Frm} {g n cap i : Nat} {v : Value} {r : List Int} (h : FOwn B w x F) (hc : x.c = .slice (some ⟨g, 0, none⟩) n cap) (hi : i < F.cells.length) (hv : OwnI B w v r) (hnew : ∀ b, v.ownBlock = some b → b ∉ blocks x.all) :
    FOwn B (w.setCell ⟨g, i, none⟩ v) ⟨x.c, x.u, x.vs.set i v⟩ ⟨F.cells.set i r, F.used⟩ ∧ Touch (blocks [x.c]) w (w.setCell ⟨g, i, none⟩ v) := by
  have ap := nodup_apart (l := [x.u]) h.nd
  have nd2 := nodup_right (l := [x.u]) h.nd
  have inc : ∀ b, b ∈ blocks (x.c :: x.vs) → b ∈ blocks x.all := fun b hb => sub_right [x.u] _ b hb
  have hcg : x.c.ownBlock = some g := Own.mem hc
  have hne : v.ownBlock ≠ some g := fun e => hnew g e (inc g (mem_blocks.2 ⟨x.c, List.mem_cons_self, hcg⟩))
  have S := OwnRows.setVal h.rows nd2 hc hv hne (by rw [h.rows.len]; exact hi)
  have ht : Touch (blocks [x.c]) w (w.setCell ⟨g, i, none⟩ v) := grown_touch S.2 fun b hb => mem_one hb
  refine ⟨⟨S.1, h.used.touch ht fun b hb hm => ap b (mem_one hb) (blocks_sub (l := [x.c]) (fun u hu => by simp only [List.mem_singleton] at hu; subst hu; exact List.mem_cons_self) b hm), ?_⟩, ht⟩
  have nd3 : (blocks (x.c :: x.vs.set i v)).Nodup := nodup_blocks (l := [x.c]) (nodup_one _) (nodup_set (nodup_right (l := [x.c]) nd2) fun b hb hm => hnew b hb (inc b (blocks_sub (fun u hu => List.mem_cons_of_mem _ hu) b hm))) fun b hb hm => by
    rcases blocks_set b hm with h3 | h3
    · exact nodup_apart (l := [x.c]) nd2 b hb h3
    · exact hnew b h3 (inc b (blocks_sub (l := [x.c]) (fun u hu => by simp only [List.mem_singleton] at hu; subst hu; exact List.mem_cons_self) b hb))
  refine nodup_blocks (l := [x.u]) (nodup_one _) nd3 fun b hb hm => ?_
  rw [show x.c :: x.vs.set i v = [x.c] ++ x.vs.set i v from rfl, blocks_append, List.mem_append] at hm
  rcases hm with hm | hm
  · exact ap b hb (blocks_sub (l := [x.c]) (fun u hu => by simp only [List.mem_singleton] at hu; subst hu; exact List.mem_cons_self) b hm)
  · rcases blocks_set b hm with h3 | h3
    · exact ap b hb (blocks_sub (fun u hu => List.mem_cons_of_mem _ hu) b h3)
    · exact hnew b h3 (sub_left [x.u] _ b hb)
/-- A cell of a row is stored. -/
theorem FOwn.setCell {x : FV} {F : Frm} {g n cap i : Nat} {v : Value} {r : List Int} (h : FOwn B w x F) (hi : x.vs[i]? = some v) (hr : F.cells[i]? = some r) (hv : v = .slice (some ⟨g, 0, none⟩) n cap) (j : Nat) (y : Int) :
    FOwn B (w.setCell ⟨g, j, none⟩ (.int .i64 y)) x ⟨F.cells.set i (r.set j y), F.used⟩ ∧ Touch (blocks [v]) w (w.setCell ⟨g, j, none⟩ (.int .i64 y)) := by
  have ap := nodup_apart (l := [x.u]) h.nd
  have nd2 := nodup_right (l := [x.u]) h.nd
  have ho := h.rows.row i v r hi hr
  have S := Own.set1 lenInt ho hv j (.int .i64 y) y rfl
  have ht : Touch (blocks [v]) w (w.setCell ⟨g, j, none⟩ (.int .i64 y)) := grown_touch S.2 fun b hb => mem_one hb
  refine ⟨⟨OwnRows.setRow h.rows nd2 hi S.2 S.1, h.used.touch ht fun b hb hm => ap b (mem_one hb) (blocks_sub (l := [v]) (fun u hu => by simp only [List.mem_singleton] at hu; subst hu; exact List.mem_cons_of_mem _ (List.mem_of_getElem? hi)) b hm), h.nd⟩, ht⟩
theorem mem_c (x : FV) : ∀ b ∈ blocks [x.c], b ∈ blocks x.all := fun b hb => sub_right [x.u] _ b (blocks_sub (l := [x.c]) (fun u hu => by simp only [List.mem_singleton] at hu; subst hu; exact List.mem_cons_self) b hb)
theorem mem_u (x : FV) : ∀ b ∈ blocks [x.u], b ∈ blocks x.all := fun b hb => sub_left [x.u] _ b hb
theorem mem_v {x : FV} {i : Nat} {v : Value} (hi : x.vs[i]? = some v) : ∀ b ∈ blocks [v], b ∈ blocks x.all := fun b hb => sub_right [x.u] _ b (blocks_sub (l := [v]) (fun u hu => by simp only [List.mem_singleton] at hu; subst hu; exact List.mem_cons_of_mem _ (List.mem_of_getElem? hi)) b hb)
end
end Go.Proofs.Ytkkebpcclklmcaa
