/-
  Texts put together: Frame, Open, OpenK, OpenP, OpenJ.
-/
import Derived.Test.YtmblkllijjlkoaaGreatRows
import Derived.WalkKit
import Derived.ProofKit
import Derived.OpenShut
import Derived.Lib.SmallJoins
import Derived.Test.YtmblkllijjlkoaaGreatGB3
import Derived.Test.YtmblkllijjlkoaaGreatGB5
import Derived.Deep.Slices
import Derived.Deep.Fields
import Derived.Test.YtmblkllijjlkoaaGreatGB10
/-
  The frame of every statement of this seat: if the call returns true and nothing that was there has turned, the row's condition behind the call holds. No Go function is named here.
-/
set_option linter.unusedVariables false
set_option linter.unusedSimpArgs false
namespace Go.Proofs.YtmblkllijjlkoaaGreat
open Go.ChangeShapes Go.WideShapes Go.ChangeAt Go.RowKit
section
variable {H : Type} {enc : TypeId × Value → H} {P : Program}
/-- All arguments read behind the call as before, if below the old heap nothing has turned. -/
theorem trodAll_below (hl : laidOutB P = true) {W W' : World} (hb : Below W.heap.size W W') {sp : Nat → Bool} : ∀ (ts : List TypeId) (vs : List Value) (ds : List (DataW H)) (ps : List MemPlace), ts.all (fun t => P.readableRec t && decide (t < P.types.size)) = true → DataW.TrodAll enc P W 0 (fun _ => true) true ts vs ds ps →
    (∀ p ∈ ps, p.block < W.heap.size) → (∀ p ∈ ps, sp p.block = true) → DataW.TrodAll enc P W' 0 sp true ts vs ds ps
  | [], [], [], ps, _, h, _, _ => h
  | t :: ts, v :: vs, d :: ds, ps, ht, h, hlt, hsp => by
    obtain ⟨p, q, hd, hr, rfl⟩ := h
    simp only [List.all_cons, Bool.and_eq_true, decide_eq_true_eq] at ht
    exact ⟨p, q, WideElems.Trod_stays hl ht.1.1 ht.1.2 hd (fun x hx => hb.same (hlt x (List.mem_append_left _ hx))) (fun x hx => hsp x (List.mem_append_left _ hx)),
      trodAll_below hl hb ts vs ds q ht.2 hr (fun x hx => hlt x (List.mem_append_right _ hx)) (fun x hx => hsp x (List.mem_append_right _ hx)), rfl⟩
  | [], _ :: _, _, _, _, h, _, _ => by cases h
  | [], [], _ :: _, _, _, h, _, _ => by cases h
  | _ :: _, [], _, _, _, h, _, _ => by cases h
  | _ :: _, _ :: _, [], _, _, h, _, _ => by cases h
/-- The row's condition behind a call of a law that has returned true. -/
theorem law_post {f : Func} {s : ChangeSpec} {apart fresh handsOn : Bool} {W W' : World} {args : Array Value} {ds gs : List (DataW H)} {before : List MemPlace} {tb : TypeId}
    (hl : laidOutB P = true) (hall : f.params.toList.all (fun t => P.readableRec t && decide (t < P.types.size)) = true) (hvars : s.vars = []) (hres : f.resultTypes = #[tb]) (hbool : P.underlying tb = some .bool)
    (hW : DataW.Whole enc P f.params.toList s.vars apart W args.toList ds gs before)
    (h1 : (s.fn H (ds ++ gs)).results = [.lit (.bool true)]) (h2 : (s.fn H (ds ++ gs)).args = ds) (h3 : (s.fn H (ds ++ gs)).vars = []) (hb : Below W.heap.size W W') :
    s.post enc P f apart fresh handsOn false W args (.bool true) W' := by
  have hlt : ∀ p ∈ before, p.block < W.heap.size := fun p hp => hW.lt p hp
  have hW0 := hW
  obtain ⟨p, q, hA, hV, rfl, hz, hn⟩ := hW
  rw [hvars] at hV
  cases gs with
  | cons _ _ => exact hV.elim
  | nil =>
    obtain rfl : q = [] := hV
    simp only [List.append_nil] at *
    have hr : ∀ (b : Nat) (sp : Nat → Bool) (hd : Bool), DataW.TrodAll enc P W' b sp hd [tb] [.bool true] [.lit (.bool true)] [] := fun b sp hd => trodAll_mk1 (shut_bool hbool _)
    refine ⟨ds, [], p, [], p, [], hW0, ?_, ?_, ?_, World.keptBut_mono (fun x hx => ⟨hx, .inr (.inl hx)⟩) (hb.frame (· ∈ p)), fun h => by cases h⟩
    · rw [List.append_nil, h1, hres]; exact hr _ _ _
    · rw [List.append_nil, h2]
      exact trodAll_below hl hb _ _ _ _ hall hA (fun x hx => hlt x (by simpa using hx)) (fun x hx => by simpa using hlt x (by simpa using hx))
    · rw [List.append_nil, h3, hvars]; exact rfl
end
theorem own : ownKnob Tryz.prog.godebug = none := by kernel_rfl
theorem laidOut : laidOutB Tryz.prog = true := by kernel_rfl
end Go.Proofs.YtmblkllijjlkoaaGreat
/-
  Arguments of the laws that are slices, slices of slices, or structs of such: what can be read of them.
-/
set_option linter.unusedVariables false
set_option linter.unusedSimpArgs false
namespace Go.Proofs.YtmblkllijjlkoaaGreat
open Go.ChangeShapes Go.WideShapes Go.ChangeAt Go.RowKit Go.Deep
theorem addr_pl (a : Addr) (w : World) (v : Value) (h : w.cell? a = some v) : ∃ b o, a = ⟨b, o, none⟩ ∧ b < w.heap.size := by
  obtain ⟨b, o, s⟩ := a
  cases s with
  | none => exact ⟨b, o, rfl, World.block_lt_of_cell? w ⟨b, o, none⟩ h⟩
  | some s =>
    exfalso
    unfold World.cell? at h
    split at h
    · simp at h
    · simp at h
theorem addr_ad (b o i : Nat) : (⟨b, o, none⟩ : Addr).add i = ⟨b, o + i, none⟩ := by unfold Addr.add; split <;> simp_all
theorem listOf {α : Type} (R : Nat → α → Prop) : ∀ n, (∀ i, i < n → ∃ x, R i x) → ∃ xs : List α, xs.length = n ∧ ∀ i x, xs[i]? = some x → R i x
  | 0, _ => ⟨[], rfl, fun i x hi => by simp at hi⟩
  | n + 1, h => by
    obtain ⟨xs, hl, hx⟩ := listOf R n (fun i hi => h i (by omega))
    obtain ⟨x, hr⟩ := h n (by omega)
    refine ⟨xs ++ [x], by simp [hl], fun i y hi => ?_⟩
    rcases Nat.lt_or_ge i n with h1 | h1
    · rw [List.getElem?_append_left (by omega)] at hi; exact hx i y hi
    · have hlt := getx_lt hi
      have : i = n := by simp [hl] at hlt; omega
      subst this
      rw [List.getElem?_append_right (by omega), hl, Nat.sub_self] at hi
      simp at hi
      subst hi
      exact hr
section
variable {H : Type} {enc : TypeId × Value → H} {P : Program} {W : World} {base : Nat} {t e : TypeId} {v : Value} {d : DataW H} {p : List MemPlace}
/-- A slice that can be read, and of each element what R says. -/
theorem slat_open {α : Type} {k : Nat} {f : α → List Value} {fuel : Nat} {y : DataW H × List MemPlace} (R : α → Prop) (ht : P.underlying t = some (.slice e)) (hC : P.cellsOf e = k) (hpos : 0 < k)
    (hR : ∀ m cs y, cs.length = k → DataW.trod enc P W 0 (fun _ => true) true m e cs = some y → ∃ x : α, cs = f x ∧ R x)
    (h : DataW.trod enc P W 0 (fun _ => true) true fuel t [v] = some y) : ∃ xs : List α, SlAt k f W v xs ∧ ∀ x ∈ xs, R x := by
  subst hC
  rcases open_slice ht h with ⟨hcs, _⟩ | ⟨a, len, cap, m, n, D, Pl, hcs, hb, hl, hm, hmm, _, hi⟩
  · simp only [List.cons.injEq, and_true] at hcs
    subst hcs
    exact ⟨[], ⟨none, 0, rfl, Nat.le_refl _, Nat.zero_le _, fun i x hi => by simp at hi⟩, by simp⟩
  · simp only [List.cons.injEq, and_true] at hcs
    subst hcs
    simp only [if_true] at hmm
    by_cases hl0 : len = 0
    · subst hl0
      exact ⟨[], ⟨some a, cap, rfl, Nat.zero_le _, hm, fun i x hi => by simp at hi⟩, by simp⟩
    obtain ⟨cs0, h01, _⟩ := hi 0 (by omega)
    obtain ⟨_, hcl0, hat0⟩ := World.cells?_some h01
    have h00 := hat0 0 hpos
    rw [List.getElem?_eq_getElem (by omega), Nat.zero_mul] at h00
    have hself : (a.add 0).add 0 = a := rfl
    rw [hself] at h00
    obtain ⟨b, o, rfl, hbW⟩ := addr_pl a W _ h00
    obtain ⟨xs, hlen, hx⟩ := listOf (fun i (x : α) => (∀ j u, (f x)[j]? = some u → W.cell? ⟨b, o + i * P.cellsOf e + j, none⟩ = some u) ∧ R x) len (fun i hlt => by
      obtain ⟨cs', h1, h2⟩ := hi i (by omega)
      obtain ⟨_, hcl, hat⟩ := World.cells?_some h1
      obtain ⟨x, rfl, hr⟩ := hR _ _ _ hcl h2
      refine ⟨x, fun j u hj => ?_, hr⟩
      have h4 := hat j (by rw [← hcl]; exact getx_lt hj)
      rw [addr_ad, addr_ad] at h4
      rw [h4, hj])
    subst hlen
    refine ⟨xs, ⟨some _, cap, rfl, hl, hm, fun i x hi' => ⟨b, o, rfl, hbW, (hx i x hi').1⟩⟩, fun x hmem => ?_⟩
    obtain ⟨i, hi'⟩ := List.getElem?_of_mem hmem
    exact (hx i x hi').2
theorem ints_open {fuel : Nat} {y : DataW H × List MemPlace} (ht : P.underlying t = some (.slice e)) (he : P.underlying e = some (.int .i64)) (hC : P.cellsOf e = 1)
    (h : DataW.trod enc P W 0 (fun _ => true) true fuel t [v] = some y) : ∃ xs : List Int, SlAt 1 fInt W v xs :=
  (slat_open (fun _ => True) ht hC (by omega) (fun m cs y _ hy => by
    obtain ⟨x, rfl, _, _⟩ := DataW.trod_int he hy
    exact ⟨x, rfl, trivial⟩) h).imp fun _ h => h.1
theorem bools_open {fuel : Nat} {y : DataW H × List MemPlace} {f : Bool → List Value} (hf : ∀ b, f b = [.bool b]) (ht : P.underlying t = some (.slice e)) (he : P.underlying e = some .bool) (hC : P.cellsOf e = 1)
    (h : DataW.trod enc P W 0 (fun _ => true) true fuel t [v] = some y) : ∃ xs : List Bool, SlAt 1 f W v xs :=
  (slat_open (fun _ => True) ht hC (by omega) (fun m cs y _ hy => by
    obtain ⟨x, rfl, _⟩ := DataW.trod_bool he hy
    exact ⟨x, (hf x).symm, trivial⟩) h).imp fun _ h => h.1
theorem rows_open {fuel : Nat} {y : DataW H × List MemPlace} {q : TypeId} (ht : P.underlying t = some (.slice e)) (he : P.underlying e = some (.slice q)) (hq : P.underlying q = some (.int .i64)) (hC : P.cellsOf e = 1) (hD : P.cellsOf q = 1)
    (h : DataW.trod enc P W 0 (fun _ => true) true fuel t [v] = some y) : ∃ vs rows, RowsAt fInt W v vs rows := by
  obtain ⟨vs, hs, hr⟩ := slat_open (f := fVal) (fun u => ∃ xs : List Int, SlAt 1 fInt W u xs) ht hC (by omega) (fun m cs y hl hy => by
    match cs, hl with
    | [c], _ => exact ⟨c, rfl, ints_open he hq hD hy⟩) h
  obtain ⟨rows, hlen, hx⟩ := listOf (fun i (r : List Int) => ∀ u, vs[i]? = some u → SlAt 1 fInt W u r) vs.length (fun i hi => by
    obtain ⟨u, hu⟩ := getx hi
    obtain ⟨r, hr'⟩ := hr u (List.mem_of_getElem? hu)
    exact ⟨r, fun u' hu' => by rw [hu] at hu'; cases hu'; exact hr'⟩)
  exact ⟨vs, rows, hs, hlen.symm, fun i u r hu hr' => hx i r hr' u hu⟩
/-- The fields of a struct among the arguments. -/
theorem fields_open {fs : Array Field} (hs : P.underlying t = some (.struct fs)) (hok : Value.okWide P W .any base t v) (h : DataW.Trod enc P W 0 (fun _ => true) true t v d p) :
    ∃ cs : Array Value, v = .agg cs ∧ cs.size = P.cellsOf t ∧ ∃ n, ∀ (j : Nat) (f : Field), fs[j]? = some f → ∃ y, DataW.trod enc P W 0 (fun _ => true) true n f.type ((cs.toList.drop f.offset).take (P.cellsOf f.type)) = some y := by
  obtain ⟨cs, rfl, hsz⟩ := okWide_struct hs hok
  obtain ⟨fuel, hf⟩ := h
  obtain ⟨xs, n, _, _, _, hl, hg⟩ := DataW.trod_struct hs hf
  refine ⟨cs, rfl, hsz, n, fun j f hj => ?_⟩
  have h1 := hg j f hj
  rw [List.getElem?_eq_getElem (by rw [hl]; exact (Array.getElem?_eq_some_iff.1 hj).1)] at h1
  exact ⟨_, h1⟩
theorem sub_open {fs : Array Field} {fuel : Nat} {cs : List Value} {y : DataW H × List MemPlace} (hs : P.underlying t = some (.struct fs)) (h : DataW.trod enc P W 0 (fun _ => true) true fuel t cs = some y) :
    ∃ n, ∀ (j : Nat) (f : Field), fs[j]? = some f → ∃ y', DataW.trod enc P W 0 (fun _ => true) true n f.type ((cs.drop f.offset).take (P.cellsOf f.type)) = some y' := by
  obtain ⟨xs, n, _, _, _, hl, hg⟩ := DataW.trod_struct hs h
  refine ⟨n, fun j f hj => ?_⟩
  have h1 := hg j f hj
  rw [List.getElem?_eq_getElem (by rw [hl]; exact (Array.getElem?_eq_some_iff.1 hj).1)] at h1
  exact ⟨_, h1⟩
theorem arr1 {cs : Array Value} (h : cs.size = 1) : ∃ a, cs = #[a] := by
  obtain ⟨l⟩ := cs; match l, h with | [a], _ => exact ⟨a, rfl⟩
theorem arr2 {cs : Array Value} (h : cs.size = 2) : ∃ a b, cs = #[a, b] := by
  obtain ⟨l⟩ := cs; match l, h with | [a, b], _ => exact ⟨a, b, rfl⟩
theorem arr3 {cs : Array Value} (h : cs.size = 3) : ∃ a b c, cs = #[a, b, c] := by
  obtain ⟨l⟩ := cs; match l, h with | [a, b, c], _ => exact ⟨a, b, c, rfl⟩
theorem arr5 {cs : Array Value} (h : cs.size = 5) : ∃ a b c d e, cs = #[a, b, c, d, e] := by
  obtain ⟨l⟩ := cs; match l, h with | [a, b, c, d, e], _ => exact ⟨a, b, c, d, e, rfl⟩
end
end Go.Proofs.YtmblkllijjlkoaaGreat
/-
  A law's argument that is a kernel.
-/
set_option linter.unusedVariables false
set_option linter.unusedSimpArgs false
namespace Go.Proofs.YtmblkllijjlkoaaGreat
open Go.ChangeShapes Go.WideShapes Go.ChangeAt Go.RowKit Go.Deep
section
variable {H : Type} {enc : TypeId × Value → H} {W : World} {base : Nat} {v : Value} {d : DataW H} {p : List MemPlace}
set_option maxRecDepth 100000 in
theorem ents_open {fuel : Nat} {y : DataW H × List MemPlace} (h : DataW.trod enc Tryz.prog W 0 (fun _ => true) true fuel 26 [v] = some y) : ∃ es : List Ent, EntAt W v es := by
  have hC : Tryz.prog.cellsOf 188 = 2 := by kernel_rfl
  have hI : Tryz.prog.cellsOf 3 = 1 := by kernel_rfl
  obtain ⟨es, hs, _⟩ := slat_open (f := fEnt) (fun _ => True) Tryz.underlying26 hC (by omega) (fun m cs y hl hy => by
    obtain ⟨n, hg⟩ := sub_open Tryz.underlying188 hy
    match cs, hl with
    | [a, b], _ =>
      obtain ⟨y0, h0⟩ := hg 0 _ rfl
      obtain ⟨y1, h1⟩ := hg 1 _ rfl
      simp [hI] at h0 h1
      obtain ⟨m0, e0, _, _⟩ := DataW.trod_int Tryz.underlying3 h0
      obtain ⟨m1, e1, _, _⟩ := DataW.trod_int Tryz.underlying3 h1
      simp only [List.cons.injEq, and_true] at e0 e1
      subst e0 e1
      exact ⟨⟨m0, m1⟩, rfl, trivial⟩) h
  exact ⟨es, hs⟩
set_option maxRecDepth 100000 in
theorem kernel_open (hok : Value.okWide Tryz.prog W .any base 33 v) (h : DataW.Trod enc Tryz.prog W 0 (fun _ => true) true 33 v d p) :
    ∃ (x : KV) (K : Ker), v = x.val K.calls ∧ KAt W x K ∧ (Lit.int .i64 K.calls).wf = true := by
  obtain ⟨cs, rfl, hsz, n, hg⟩ := fields_open Tryz.underlying33 hok h
  have hC : Tryz.prog.cellsOf 33 = 5 := by kernel_rfl
  have hM : Tryz.prog.cellsOf 30 = 3 := by kernel_rfl
  have hF : Tryz.prog.cellsOf 25 = 2 := by kernel_rfl
  have hT : Tryz.prog.cellsOf 28 = 1 := by kernel_rfl
  have hI : Tryz.prog.cellsOf 3 = 1 := by kernel_rfl
  have hB : Tryz.prog.cellsOf 4 = 1 := by kernel_rfl
  have hS : Tryz.prog.cellsOf 31 = 1 := by kernel_rfl
  have hR : Tryz.prog.cellsOf 22 = 1 := by kernel_rfl
  have hU : Tryz.prog.cellsOf 23 = 1 := by kernel_rfl
  have hE : Tryz.prog.cellsOf 26 = 1 := by kernel_rfl
  obtain ⟨c, u, e, k, r, rfl⟩ := arr5 (hsz.trans hC)
  obtain ⟨y0, h0⟩ := hg 0 _ rfl
  obtain ⟨y1, h1⟩ := hg 1 _ rfl
  obtain ⟨y2, h2⟩ := hg 2 _ rfl
  simp [hM, hI, hS] at h0 h1 h2
  obtain ⟨calls, e1, _, wf⟩ := DataW.trod_int Tryz.underlying3 h1
  simp only [List.cons.injEq, and_true] at e1
  subst e1
  obtain ⟨refuse, href⟩ := ints_open Tryz.underlying31 Tryz.underlying3 hI h2
  obtain ⟨n0, g0⟩ := sub_open Tryz.underlying30 h0
  obtain ⟨z0, k0⟩ := g0 0 _ rfl
  obtain ⟨z1, k1⟩ := g0 1 _ rfl
  simp [hF, hT] at k0 k1
  obtain ⟨n1, g1⟩ := sub_open Tryz.underlying25 k0
  obtain ⟨z2, k2⟩ := g1 0 _ rfl
  obtain ⟨z3, k3⟩ := g1 1 _ rfl
  simp [hR, hU] at k2 k3
  obtain ⟨n2, g2⟩ := sub_open Tryz.underlying28 k1
  obtain ⟨z4, k4⟩ := g2 0 _ rfl
  simp [hE] at k4
  obtain ⟨vs, rows, hrows⟩ := rows_open Tryz.underlying22 Tryz.underlying31 Tryz.underlying3 hS hI k2
  obtain ⟨used, hused⟩ := bools_open (f := fBool) (fun _ => rfl) Tryz.underlying23 Tryz.underlying4 hB k3
  obtain ⟨es, hes⟩ := ents_open k4
  exact ⟨⟨⟨⟨c, u, vs⟩, e⟩, r⟩, ⟨⟨⟨rows, used⟩, es⟩, calls, refuse⟩, rfl, ⟨⟨⟨hrows, hused⟩, hes⟩, href⟩, wf⟩
end
end Go.Proofs.YtmblkllijjlkoaaGreat
/-
  A law's argument that is a plan.
-/
set_option linter.unusedVariables false
set_option linter.unusedSimpArgs false
namespace Go.Proofs.YtmblkllijjlkoaaGreat
open Go.ChangeShapes Go.WideShapes Go.ChangeAt Go.RowKit Go.Deep
section
variable {H : Type} {enc : TypeId × Value → H} {W : World} {base : Nat} {v : Value} {d : DataW H} {p : List MemPlace}
set_option maxRecDepth 100000 in
theorem plan_open (hok : Value.okWide Tryz.prog W .any base 62 v) (h : DataW.Trod enc Tryz.prog W 0 (fun _ => true) true 62 v d p) :
    ∃ (kp mv : Int) (c : Value) (cs : List Int), v = .agg #[.int .i64 kp, .int .i64 mv, c] ∧ IntsAt W c cs ∧ (Lit.int .i64 kp).wf = true ∧ (Lit.int .i64 mv).wf = true := by
  obtain ⟨cs, rfl, hsz, n, hg⟩ := fields_open Tryz.underlying62 hok h
  have hC : Tryz.prog.cellsOf 62 = 3 := by kernel_rfl
  have hI : Tryz.prog.cellsOf 3 = 1 := by kernel_rfl
  have hS : Tryz.prog.cellsOf 31 = 1 := by kernel_rfl
  obtain ⟨c, u, e, rfl⟩ := arr3 (hsz.trans hC)
  obtain ⟨y0, h0⟩ := hg 0 _ rfl
  obtain ⟨y1, h1⟩ := hg 1 _ rfl
  obtain ⟨y2, h2⟩ := hg 2 _ rfl
  simp [hI, hS] at h0 h1 h2
  obtain ⟨kp, e0, _, wf0⟩ := DataW.trod_int Tryz.underlying3 h0
  obtain ⟨mv, e1, _, wf1⟩ := DataW.trod_int Tryz.underlying3 h1
  simp only [List.cons.injEq, and_true] at e0 e1
  subst e0 e1
  obtain ⟨xs, hxs⟩ := ints_open Tryz.underlying31 Tryz.underlying3 hI h2
  exact ⟨kp, mv, _, xs, rfl, hxs, wf0, wf1⟩
end
end Go.Proofs.YtmblkllijjlkoaaGreat
/-
  A law's argument that is a job.
-/
set_option linter.unusedVariables false
set_option linter.unusedSimpArgs false
namespace Go.Proofs.YtmblkllijjlkoaaGreat
open Go.ChangeShapes Go.WideShapes Go.ChangeAt Go.RowKit Go.Deep
section
variable {H : Type} {enc : TypeId × Value → H} {W : World} {base : Nat} {v : Value} {d : DataW H} {p : List MemPlace}
set_option maxRecDepth 100000 in
theorem job_open (hok : Value.okWide Tryz.prog W .any base 64 v) (h : DataW.Trod enc Tryz.prog W 0 (fun _ => true) true 64 v d p) :
    ∃ (kp mv : Int) (c : Value) (cs : List Int) (ph nx : Int), v = .agg #[.int .i64 kp, .int .i64 mv, c, .int .i64 ph, .int .i64 nx] ∧ IntsAt W c cs ∧ (Lit.int .i64 kp).wf = true ∧ (Lit.int .i64 mv).wf = true ∧ (Lit.int .i64 ph).wf = true ∧ (Lit.int .i64 nx).wf = true := by
  obtain ⟨cs, rfl, hsz, n, hg⟩ := fields_open Tryz.underlying64 hok h
  have hC : Tryz.prog.cellsOf 64 = 5 := by kernel_rfl
  have hP : Tryz.prog.cellsOf 62 = 3 := by kernel_rfl
  have hI : Tryz.prog.cellsOf 3 = 1 := by kernel_rfl
  have hS : Tryz.prog.cellsOf 31 = 1 := by kernel_rfl
  obtain ⟨c, u, e, k, r, rfl⟩ := arr5 (hsz.trans hC)
  obtain ⟨y0, h0⟩ := hg 0 _ rfl
  obtain ⟨y1, h1⟩ := hg 1 _ rfl
  obtain ⟨y2, h2⟩ := hg 2 _ rfl
  simp [hP, hI] at h0 h1 h2
  obtain ⟨ph, e3, _, wf3⟩ := DataW.trod_int Tryz.underlying3 h1
  obtain ⟨nx, e4, _, wf4⟩ := DataW.trod_int Tryz.underlying3 h2
  simp only [List.cons.injEq, and_true] at e3 e4
  subst e3 e4
  obtain ⟨n0, g0⟩ := sub_open Tryz.underlying62 h0
  obtain ⟨z0, k0⟩ := g0 0 _ rfl
  obtain ⟨z1, k1⟩ := g0 1 _ rfl
  obtain ⟨z2, k2⟩ := g0 2 _ rfl
  simp [hI, hS] at k0 k1 k2
  obtain ⟨kp, e0, _, wf0⟩ := DataW.trod_int Tryz.underlying3 k0
  obtain ⟨mv, e1, _, wf1⟩ := DataW.trod_int Tryz.underlying3 k1
  simp only [List.cons.injEq, and_true] at e0 e1
  subst e0 e1
  obtain ⟨xs, hxs⟩ := ints_open Tryz.underlying31 Tryz.underlying3 hI k2
  exact ⟨kp, mv, _, xs, ph, nx, rfl, hxs, wf0, wf1, wf3, wf4⟩
end
end Go.Proofs.YtmblkllijjlkoaaGreat
