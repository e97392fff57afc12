/- 'laws.FnMeshable' returns true, whatever the bytes: no condition. -/
import Derived.Test.YtoopdfnpfeeanaaBytes
import Derived.Test.YtoopdfnpfeeanaaSlotLaw
import Derived.Test.YtoopdfnpfeeanaaGroup
import Derived.Deep.RegionHeld3
set_option linter.unusedVariables false
set_option linter.unusedSimpArgs false
namespace Go.Proofs.Ytoopdfnpfeeanaa
open Go.ChangeShapes Go.WideShapes Go.ChangeAt Go.RowKit
theorem mesh_self (p c b : Int) : meshable p c b p c b = false := by unfold meshable; simp
theorem and_mask {c b : Int} (hc : 0 ≤ c ∧ c ≤ 3) (hb : 0 ≤ b ∧ b < 2 ^ slotsNat c) : bits .and .i64 b (2 ^ slotsNat c - 1) = b := by
  have hn16 : slotsNat c ≤ 16 := by have := slotsOf_pos hc; unfold slotsNat; omega
  obtain ⟨b, rfl⟩ := Int.eq_ofNat_of_zero_le hb.1
  have hcast : ((2 : Int) ^ slotsNat c) = ((2 ^ slotsNat c : Nat) : Int) := by simp
  have h16 : 2 ^ slotsNat c ≤ 2 ^ 16 := Nat.pow_le_pow_right (by omega) hn16
  have hpos := Nat.two_pow_pos (slotsNat c)
  have hbn : b < 2 ^ slotsNat c := by omega
  rw [show (2 : Int) ^ slotsNat c - 1 = ((2 ^ slotsNat c - 1 : Nat) : Int) by omega, (i64_nat b _ (by omega) (by omega)).1, Nat.and_two_pow_sub_one_eq_mod, Nat.mod_eq_of_lt hbn]
theorem full_ok {c : Int} (hc : 0 ≤ c ∧ c ≤ 3) (p : Int) (hp : 0 ≤ p ∧ p ≤ 31) : spanOk p c (2 ^ slotsNat c - 1) = true ∧ spanOk p c 0 = true := by
  have hn : (slotsNat c : Int) = slotsOf c := by have := slotsOf_bound c; unfold slotsNat; omega
  have h2 := slotsOf_pos hc
  have hpos : (1 : Int) ≤ 2 ^ slotsNat c := by
    have := Nat.two_pow_pos (slotsNat c)
    have h2 : ((2 : Int) ^ slotsNat c) = ((2 ^ slotsNat c : Nat) : Int) := by simp
    omega
  simp only [spanOk, Bool.and_eq_true, between_iff, bitmapOk, ← hn, Int.toNat_natCast]
  omega
theorem mesh_full {p c b : Int} (hp : 0 ≤ p ∧ p ≤ 7) (hc : 0 ≤ c ∧ c ≤ 3) (hb : 0 ≤ b ∧ b < 2 ^ slotsNat c) : meshable p c b 9 c (2 ^ slotsNat c - 1) = (b == 0) := by
  unfold meshable
  rw [spanOk_drawn hp hc hb, (full_ok hc 9 (by omega)).1, and_mask hc hb]
  have : (p != 9) = true := by simp; omega
  simp [this]
theorem mesh_empty {c : Int} (hc : 0 ≤ c ∧ c ≤ 3) : meshable 9 c (2 ^ slotsNat c - 1) 3 c 0 = true := by
  unfold meshable
  rw [(full_ok hc 9 (by omega)).1, (full_ok hc 3 (by omega)).2, bits_and_comm]
  have : bits .and .i64 0 (2 ^ slotsNat c - 1) = 0 := by unfold bits; simp; decide
  simp [this]
theorem mask_eq {k : Nat} (hk : k ≤ 16) : IntKind.i64.wrap (IntKind.i64.wrap (2 ^ min (IntKind.u64.wrap (k : Int)).toNat 64) - 1) = 2 ^ k - 1 :=
  (by decide +kernel : ∀ m : Fin 17, IntKind.i64.wrap (IntKind.i64.wrap (2 ^ min (IntKind.u64.wrap (m.val : Int)).toNat 64) - 1) = 2 ^ m.val - 1) ⟨k, by omega⟩
set_option maxHeartbeats 3200000 in
theorem w_FnMeshable (v : Value) (xs : List Int) (w : World) (hv : ByteAt w v xs) : Calls Try.prog 4 #[v] w fun e w' => e = .returned (.bool true) ∧ Below w.heap.size w w' := by
  have HV := Lib.hid hv.bytes; have HX := Lib.hid hv
  obtain ⟨ao, ca, rfl, -, hcm⟩ := hv.1.shape
  clear hv
  by_cases hbig : (1048576 : Int) < xs.length
  · (have hall := all_nil w; go_enter Try.func4, Try.ntmps4)
    go_wp2_with (go_at_call 18; refine (l_big _ _ _ HV.out).mono ?_; rintro e w1 ⟨rfl, rfl⟩)
    all_goals (go_ret; refine ⟨by simp_all [], ?_⟩; exact bel)
  · have hxl : xs.length ≤ 1048576 := by omega
    (have hall := all_nil w; go_enter Try.func4, Try.ntmps4)
    go_wp2_with (go_at_call 18; refine (l_big _ _ _ HV.out).mono ?_; rintro e w1 ⟨rfl, rfl⟩)
    refine (s_DrawSpan _ _ _ HV.out).mono ?_; rintro e w2 ⟨⟨p, c, b⟩, rfl, hpp, hcc, hbb, hb⟩; simp only [Sp.val] at *
    have HB1 := Lib.hid hb
    have HS := Lib.hid (And.intro hpp (And.intro hcc hbb))
    clear hbb
    (first | have hn := nw4 hb hall (by exact zo) | have hn := nw3 hb hall (by exact zo) | have hn := nw2 hb hall (by exact zo) | have hn := nw1 hb hall (by exact zo) | have hn := nw0 hb hall (by exact zo)); obtain ⟨hc, hf, hn, hc0⟩ := hn; replace hall := hn; clear hn; have hz := hb.size; (try simp only [World.size_alloc, World.size_setCell, World.size_drew] at hz); have hx := hall; (try simp only [allLt, and_true] at hx); obtain ⟨w1, rfl⟩ : ∃ x, x = w2 := ⟨_, rfl⟩
    go_wp2_with (first | (at_builtin; refine wpList_appendAll elemByte rfl _ _ rfl lenByte oneByte rfl (ownByte1 5 _ _ (by simp)) (by exact zt) rfl (SlAt.below HX.out.1 (by exact bel)) (by simp only [List.length_cons, List.length_nil, maxLen]; omega) ?_; intro v2 w2 hown2 hgr2 hat2 hb; (try simp only [List.nil_append] at hown2); obtain ⟨v2o, v2c, rfl, -, -⟩ := hown2.shape; have OB := Lib.hid (And.intro hown2 hgr2)))
    have hbv : ByteAt w2 (.slice v2o (xs.length + 1) v2c) ([5] ++ xs) := by
      have := ByteAt.own OB.out.1 (by omega) HX.out.2
      exact this
    have HBV := Lib.hid hbv.bytes
    clear hgr2 hown2 hat2
    obtain ⟨B0, hB0⟩ : ∃ x, x = w1.heap.size := ⟨_, rfl⟩
    have hwB : w.heap.size ≤ B0 := by omega
    have hz2 := hb.size; (try simp only [World.size_alloc, World.size_setCell] at hz2)
    have k0 : w2.cell? ⟨B0, 0, none⟩ = some (.int .i64 p) := (hb.cell (p := ⟨B0, 0, none⟩) (by dsimp only; omega)).trans (by rw [hB0]; go_simp)
    have k1 : w2.cell? ⟨B0, 1, none⟩ = some (.int .i64 c) := (hb.cell (p := ⟨B0, 1, none⟩) (by dsimp only; omega)).trans (by rw [hB0]; go_simp)
    have k2 : w2.cell? ⟨B0, 2, none⟩ = some (.int .i64 b) := (hb.cell (p := ⟨B0, 2, none⟩) (by dsimp only; omega)).trans (by rw [hB0]; go_simp)
    have HB2 : Hid (Below w.heap.size w w2) := by
      have hB := HB1.out
      have h2 := hb.mono (B' := w.heap.size) (by omega)
      exact (show Below w.heap.size w _ from by exact bel).trans h2
    rw [← hB0]
    have xB0 : B0 < w2.heap.size := by omega
    clear hb hc0 hx hall hwB hB0 OB HB1 hz2 hbv
    have xsl : ([5] ++ xs).length = xs.length + 1 := by simp
    rw [xsl] at HBV
    go_wp2_with fail
    refine (s_DrawSpan _ _ _ HBV.out).mono ?_; rintro e w3 ⟨⟨p2, c2, b2⟩, rfl, -, -, -, hb⟩; simp only [Sp.val] at *
    replace k0 := (hb.cell (p := ⟨B0, 0, none⟩) xB0).trans k0
    replace k1 := (hb.cell (p := ⟨B0, 1, none⟩) xB0).trans k1
    replace k2 := (hb.cell (p := ⟨B0, 2, none⟩) xB0).trans k2
    have HB3 : Hid (Below w.heap.size w w3) := HB2.out.trans (hb.mono (HB2.out.size))
    replace xB0 : B0 < w3.heap.size := by have := hb.size; omega
    have hne : ¬ B0 = w3.heap.size := by omega
    have hne2 : ¬ w3.heap.size = B0 := by omega
    clear hb HB2 HBV
    obtain ⟨wb, rfl⟩ : ∃ x, x = w3 := ⟨_, rfl⟩
    have hall : allLt [B0] wb.heap.size := ⟨xB0, trivial⟩
    have hx := hall
    simp only [allLt, and_true] at hx
    have hsl : slotsOf c = (slotsNat c : Int) ∧ slotsNat c ≤ 16 := by have := slotsOf_bound c; unfold slotsNat; omega
    have HSL := Lib.hid hsl
    obtain ⟨k, hk⟩ : ∃ k, k = slotsNat c := ⟨_, rfl⟩
    have CS : ∀ w, Calls Try.prog 20 #[.int .i64 c] w fun e w' => e = .returned (.int .i64 (k : Int)) ∧ w = w' := fun w => by have := s_SlotsOf c w; rwa [hsl.1, ← hk] at this
    have hk16 : k ≤ 16 := by omega
    have e1 : wrap64 (wrap64 (2 ^ k) - 1) = 2 ^ k - 1 := by
      have hp := pow_in (c := k) (by omega) (by omega)
      simp only [Int.toNat_natCast] at hp
      rw [hp.1, hp.2.1]
    have HK := Lib.hid hk; have HCS := Lib.hid CS; have E1 := Lib.hid e1
    clear hsl hk CS e1
    go_wp2_with (first | (with_reducible refine wp_region_grew_tail2 (id := 7) 10 (by kernel_rfl) (by kernel_rfl) ?_; intro w2 hb; (first | have hn := nw4 hb hall (by exact zo) | have hn := nw3 hb hall (by exact zo) | have hn := nw2 hb hall (by exact zo) | have hn := nw1 hb hall (by exact zo) | have hn := nw0 hb hall (by exact zo)); obtain ⟨hc, hf, hn, hc0⟩ := hn; replace hall := hn; clear hn; have hz := hb.size; (try simp only [World.size_alloc, World.size_setCell, World.size_drew] at hz); have hx := hall; (try simp only [allLt, and_true] at hx); obtain ⟨w1, rfl⟩ : ∃ x, x = w2 := ⟨_, rfl⟩; simp only [List.take_succ_cons, List.take_zero, List.drop_succ_cons, List.drop_zero]; (repeat (go_big_quiet_step ((go_at_call 20; exact calls_same (HCS.out _))))); refine wpQuiet_nil ?_; intro w2 hw'; have hb := grew_below hw'; clear hw'; (first | have hn := nw4 hb hall (by exact zo) | have hn := nw3 hb hall (by exact zo) | have hn := nw2 hb hall (by exact zo) | have hn := nw1 hb hall (by exact zo) | have hn := nw0 hb hall (by exact zo)); obtain ⟨hc, hf, hn, hc0⟩ := hn; replace hall := hn; clear hn; have hz := hb.size; (try simp only [World.size_alloc, World.size_setCell, World.size_drew] at hz); have hx := hall; (try simp only [allLt, and_true] at hx); obtain ⟨w1, rfl⟩ : ∃ x, x = w2 := ⟨_, rfl⟩) | (with_reducible refine wp_region_grew2 (by kernel_rfl) (by kernel_rfl) ?_; intro w2 hb; (first | have hn := nw4 hb hall (by exact zo) | have hn := nw3 hb hall (by exact zo) | have hn := nw2 hb hall (by exact zo) | have hn := nw1 hb hall (by exact zo) | have hn := nw0 hb hall (by exact zo)); obtain ⟨hc, hf, hn, hc0⟩ := hn; replace hall := hn; clear hn; have hz := hb.size; (try simp only [World.size_alloc, World.size_setCell, World.size_drew] at hz); have hx := hall; (try simp only [allLt, and_true] at hx); obtain ⟨w1, rfl⟩ : ∃ x, x = w2 := ⟨_, rfl⟩; (repeat (go_big_quiet_step (fail))); refine wpQuiet_nil ?_; intro w2 hw'; have hb := grew_below hw'; clear hw'; (first | have hn := nw4 hb hall (by exact zo) | have hn := nw3 hb hall (by exact zo) | have hn := nw2 hb hall (by exact zo) | have hn := nw1 hb hall (by exact zo) | have hn := nw0 hb hall (by exact zo)); obtain ⟨hc, hf, hn, hc0⟩ := hn; replace hall := hn; clear hn; have hz := hb.size; (try simp only [World.size_alloc, World.size_setCell, World.size_drew] at hz); have hx := hall; (try simp only [allLt, and_true] at hx); obtain ⟨w1, rfl⟩ : ∃ x, x = w2 := ⟨_, rfl⟩))
    go_region_held3 (fun w' => w'.cell? ⟨B0, 0, none⟩ = some (.int .i64 p) ∧ w'.cell? ⟨B0, 1, none⟩ = some (.int .i64 c) ∧ w'.cell? ⟨B0, 2, none⟩ = some (.int .i64 b)) (first | (refine ⟨?_, ?_, ?_⟩ <;> (go_simp; done)) | go_keep) (first | (go_at_call 20; refine (HCS.out _).mono ?_; rintro e w2 ⟨rfl, rfl⟩))
    all_goals generalize bits BinOp.and IntKind.i64 b2 (wrap64 (wrap64 (2 ^ k) - 1)) = T at *
    all_goals (generalize hF : IntKind.i64.wrap (IntKind.i64.wrap (2 ^ min (IntKind.u64.wrap (k : Int)).toNat 64) - 1) = F at *)
    all_goals (have HF : Hid (F = 2 ^ slotsNat c - 1) := by unfold Hid; rw [← hF, mask_eq hk16, HK.out])
    all_goals clear hF
    all_goals (have m3 : meshable p c b 9 c F = (b == 0) := by rw [HF.out]; exact mesh_full HS.out.1 HS.out.2.1 HS.out.2.2)
    all_goals (have m4 := mesh_self p c b)
    all_goals (have m5 : meshable 9 c F 3 c 0 = true := by rw [HF.out]; exact mesh_empty HS.out.2.1)
    all_goals (have m2 : meshable ((p + 1) % 8) c T p c b = meshable p c b ((p + 1) % 8) c T := meshS_comm ⟨_, _, _⟩ ⟨_, _, _⟩)
    all_goals (cases m1 : meshable p c b ((p + 1) % 8) c T)
    all_goals rw [m1] at m2
    all_goals (cases m0 : (b == 0))
    all_goals rw [m0] at m3
    all_goals go_wp2_with (first | (go_at_call 21; (first | (refine (i_Meshable _ _ _ _ _ _ true (by assumption) _).mono ?_) | (refine (i_Meshable _ _ _ _ _ _ false (by assumption) _).mono ?_) | (refine (i_Meshable _ _ _ _ _ _ _ rfl _).mono ?_)); rintro e w2 ⟨rfl, hb⟩; (first | have hn := nw4 hb hall (by exact zo) | have hn := nw3 hb hall (by exact zo) | have hn := nw2 hb hall (by exact zo) | have hn := nw1 hb hall (by exact zo) | have hn := nw0 hb hall (by exact zo)); obtain ⟨hc, hf, hn, hc0⟩ := hn; replace hall := hn; clear hn; have hz := hb.size; (try simp only [World.size_alloc, World.size_setCell, World.size_drew] at hz); have hx := hall; (try simp only [allLt, and_true] at hx); obtain ⟨w1, rfl⟩ : ∃ x, x = w2 := ⟨_, rfl⟩) | (with_reducible refine wp_region_grew2 (by kernel_rfl) (by kernel_rfl) ?_; intro w2 hb; (first | have hn := nw4 hb hall (by exact zo) | have hn := nw3 hb hall (by exact zo) | have hn := nw2 hb hall (by exact zo) | have hn := nw1 hb hall (by exact zo) | have hn := nw0 hb hall (by exact zo)); obtain ⟨hc, hf, hn, hc0⟩ := hn; replace hall := hn; clear hn; have hz := hb.size; (try simp only [World.size_alloc, World.size_setCell, World.size_drew] at hz); have hx := hall; (try simp only [allLt, and_true] at hx); obtain ⟨w1, rfl⟩ : ∃ x, x = w2 := ⟨_, rfl⟩; (repeat (go_big_quiet_step (first | (go_at_call 21; first | exact calls_grew (i_Meshable _ _ _ _ _ _ true (by assumption) _) | exact calls_grew (i_Meshable _ _ _ _ _ _ false (by assumption) _) | exact calls_grew (i_Meshable _ _ _ _ _ _ _ rfl _))))); refine wpQuiet_nil ?_; intro w2 hw'; have hb := grew_below hw'; clear hw'; (first | have hn := nw4 hb hall (by exact zo) | have hn := nw3 hb hall (by exact zo) | have hn := nw2 hb hall (by exact zo) | have hn := nw1 hb hall (by exact zo) | have hn := nw0 hb hall (by exact zo)); obtain ⟨hc, hf, hn, hc0⟩ := hn; replace hall := hn; clear hn; have hz := hb.size; (try simp only [World.size_alloc, World.size_setCell, World.size_drew] at hz); have hx := hall; (try simp only [allLt, and_true] at hx); obtain ⟨w1, rfl⟩ : ∃ x, x = w2 := ⟨_, rfl⟩))
    all_goals (have hB := HB3.out; have hBs := hB.size)
    all_goals (go_ret; refine ⟨by simp_all [], ?_⟩; exact bel)
namespace fnMeshable
set_option maxRecDepth 100000 in
theorem contract (H : Type) (enc : TypeId × Value → H) (W : World) (base : Nat) (args : Array Value) (ds gs : List (DataW H)) (before : List MemPlace)
    (hval : ∀ (j : Nat) t v, Try.f4.params[j]? = some t → args[j]? = some v → Value.okWide Try.prog W .any base t v)
    (hW : DataW.Whole enc Try.prog Try.f4.params.toList Rows.fnMeshableSpec.vars false W args.toList ds gs before) :
    Calls Try.prog 4 args W fun e W' => ∃ v, e = .returned v ∧ Rows.fnMeshableSpec.post enc Try.prog Try.f4 false true false false W args v W' := by
  have hW' := hW
  obtain ⟨p, q, hA0, hV, rfl, hfz, hnd⟩ := hW
  have hA : DataW.TrodAll enc Try.prog W 0 (fun _ => true) true Try.f4.params.toList args.toList ds p := hA0
  rw [Try.params4] at hA hval
  obtain ⟨v0, vs0, d0, ds0, p0, q0, hargs, rfl, rfl, h0, r0⟩ := trodAll_cons hA
  obtain ⟨rfl, rfl, rfl⟩ := trodAll_nil r0
  obtain rfl : args = #[v0] := by cases args; simp_all
  obtain ⟨rfl, rfl⟩ := trodVars_none hV
  obtain ⟨xs, hv⟩ := byte_open Try.underlying28 Try.underlying5 (by kernel_rfl) (hval 0 28 v0 rfl rfl) h0
  clear hA0
  refine (w_FnMeshable v0 xs W hv).mono fun e W' ⟨he, hg⟩ => ?_
  subst he
  exact ⟨_, rfl, law_post (tb := 4) laidOut (by kernel_rfl) rfl rfl Try.underlying4 hW' rfl rfl rfl hg⟩
set_option maxRecDepth 100000 in
theorem lifted (os : Os) (started : os.Started) (H : Type) (enc : TypeId × Value → H) :
    ReturnsInHanded {} Try.checked os 4 .any (Rows.fnMeshableSpec.pre6 enc Try.prog Try.f4 Rows.fnMeshableRow.domain false) (Rows.fnMeshableSpec.post enc Try.prog Try.f4 false true false false) := by
  refine returnsInHanded_of_change (C := Try.checked) own started (by kernel_rfl) Try.func4
    (ChangeSpec.witness6 (enc := enc) (C := Try.checked) false ⟨#[], #[.slice none 0 0], []⟩ 8 (by kernel_rfl) (by kernel_rfl) (by kernel_rfl) (by kernel_rfl)) ?_
  intro W base args ds gs before hval hW _ _
  exact contract H enc W base args ds gs before hval hW
/-- The statement. -/
theorem proved : Rows.FnMeshableSaid :=
  OpenClaim.holds_of_wide 4 Try.f4 rfl rfl rfl rfl rfl rfl rfl ⟨rfl, rfl, rfl, rfl, rfl⟩ rfl rfl rfl rfl rfl (by kernel_rfl) Try.func4 (by kernel_rfl)
    (of_decide_eq_true (by kernel_rfl)) (by unfold Func.isWrapper; first | (rw [if_pos (by decide +kernel)]; kernel_rfl) | (rw [if_neg (by decide +kernel)]; exact ⟨rfl, rfl⟩))
    (fun os started H enc _ => lifted os started H enc)
end fnMeshable

end Go.Proofs.Ytoopdfnpfeeanaa
