/- 'laws.FnChance' returns true, whatever the bytes: no condition. -/
import Derived.Test.YtohmpjabplmleaaCount
import Derived.Test.YtohmpjabplmleaaFrameB
set_option linter.unusedVariables false
set_option linter.unusedSimpArgs false
namespace Go.Proofs.Ytohmpjabplmleaa
open Go.ChangeShapes Go.WideShapes Go.ChangeAt Go.RowKit
/-! ### Bits of small numbers, as natural numbers -/
theorem i64_and (a b : Nat) (ha : a < 65536) (hb : b < 65536) : bits .and .i64 (a : Int) (b : Int) = ((a &&& b : Nat) : Int) :=
  (bits_nat .i64 16 (by decide) (fun n h0 h1 => by rw [IntKind.wrap_i64]; omega) a b (by omega) (by omega)).1
theorem hasSlot_nat (b i : Nat) (hb : b < 65536) (hi : i < 16) : hasSlot (b : Int) (i : Int) = b.testBit i := by
  have h1 : slotOk (b : Int) (i : Int) = true := slotOk_iff.2 ⟨by omega, by omega, by omega⟩
  have h2 : (b : Int) / 2 ^ (i : Int).toNat = ((b / 2 ^ i : Nat) : Int) := by rw [Int.toNat_natCast, Int.natCast_ediv]; simp
  have h3 : b / 2 ^ i < 65536 := Nat.lt_of_le_of_lt (Nat.div_le_self _ _) hb
  unfold hasSlot
  rw [h1, h2, show (1 : Int) = ((1 : Nat) : Int) from rfl, i64_and _ _ h3 (by omega), Bool.true_and, Nat.and_one_is_mod, Nat.testBit_eq_decide_div_mod_eq, Bool.eq_iff_iff]
  simp only [beq_iff_eq, decide_eq_true_eq]
  omega
/-- The ones among the last k digits. -/
def ones : Nat → Nat → Nat
  | _, 0 => 0
  | b, k + 1 => b % 2 + ones (b / 2) k
theorem ones_snoc (b k : Nat) : ones b (k + 1) = ones b k + if b.testBit k then 1 else 0 := by
  induction k generalizing b with
  | zero =>
    have hm := Nat.mod_two_eq_zero_or_one b
    rcases hm with h | h <;> simp [ones, Nat.testBit_zero, h]
  | succ k ih =>
    rw [ones, ih (b / 2), ones, Nat.testBit_succ, Nat.add_assoc]
theorem countTo_nat (b : Nat) (hb : b < 65536) : ∀ k, k ≤ 16 → countTo (b : Int) k = ones b k
  | 0, _ => rfl
  | k + 1, hk => by rw [countTo, countTo_nat b hb k (by omega), hasSlot_nat b k hb (by omega), ones_snoc]
theorem disjAt_nat (a b x : Nat) (ha : a ≤ 16) (hx : x < 65536) : disjAt (a : Int) (b : Int) (x : Int) = (ones x 16 == b && x % 2 ^ a == 0) := by
  have h1 : (2 : Int) ^ (a : Int).toNat - 1 = ((2 ^ a - 1 : Nat) : Int) := by
    rw [Int.toNat_natCast, Int.natCast_sub (Nat.two_pow_pos a)]; simp
  have h2 : 2 ^ a ≤ 65536 := Nat.pow_le_pow_right (n := 2) (by omega) ha
  have h3 := Nat.two_pow_pos a
  unfold disjAt countSlots
  rw [countTo_nat x hx 16 (Nat.le_refl _), h1, i64_and x (2 ^ a - 1) hx (by omega), Nat.and_two_pow_sub_one_eq_mod, Bool.eq_iff_iff]
  simp only [Bool.and_eq_true, beq_iff_eq]
  omega
def cntTo (a b : Nat) : Nat → Nat
  | 0 => 0
  | k + 1 => cntTo a b k + if ones k 16 == b && k % 2 ^ a == 0 then 1 else 0
theorem disjTo_nat (a b : Nat) (ha : a ≤ 16) : ∀ k, k ≤ 65536 → disjTo (a : Int) (b : Int) k = cntTo a b k
  | 0, _ => rfl
  | k + 1, hk => by rw [disjTo, cntTo, disjTo_nat a b ha k (by omega), disjAt_nat a b k ha (by omega)]
theorem count_table : ∀ n : Fin 10, ∀ a : Fin 10, ∀ b : Fin 10, a.val ≤ n.val → b.val ≤ n.val → (cntTo a.val b.val (2 ^ n.val) : Int) = binomial ((n.val : Int) - a.val) b.val := by decide +kernel
theorem sym_table : ∀ n : Fin 10, ∀ a : Fin 10, ∀ b : Fin 10, 1 ≤ n.val → a.val ≤ n.val → b.val ≤ n.val → chNum n.val a.val b.val = chNum n.val b.val a.val ∧ chDen n.val a.val b.val = chDen n.val b.val a.val ∧ 0 < chDen n.val a.val b.val ∧ 0 < binomial n.val b.val ∧
    chNum n.val a.val b.val * binomial n.val b.val = binomial ((n.val : Int) - a.val) b.val * chDen n.val a.val b.val := by decide +kernel
theorem chance_law (n a b : Int) (hn : 1 ≤ n ∧ n ≤ 9) (ha : 0 ≤ a ∧ a ≤ n) (hb : 0 ≤ b ∧ b ≤ n) :
    chNum n a b = chNum n b a ∧ chDen n a b = chDen n b a ∧ 0 < chDen n a b ∧ 0 < binomial n b ∧ chNum n a b * binomial n b = countDisjoint n a b * chDen n a b ∧ 0 ≤ countDisjoint n a b ∧ countDisjoint n a b ≤ 65536 := by
  obtain ⟨n, rfl⟩ := Int.eq_ofNat_of_zero_le (show 0 ≤ n by omega)
  obtain ⟨a, rfl⟩ := Int.eq_ofNat_of_zero_le ha.1
  obtain ⟨b, rfl⟩ := Int.eq_ofNat_of_zero_le hb.1
  have h1 := count_table ⟨n, by omega⟩ ⟨a, by omega⟩ ⟨b, by omega⟩ (by dsimp only; omega) (by dsimp only; omega)
  have h2 := sym_table ⟨n, by omega⟩ ⟨a, by omega⟩ ⟨b, by omega⟩ (by dsimp only; omega) (by dsimp only; omega) (by dsimp only; omega)
  dsimp only at h1 h2
  have h3 : countDisjoint (n : Int) a b = (cntTo a b (2 ^ n) : Int) := by
    have hc : chanceOk (n : Int) a b = true := by simp [chanceOk, between_iff]; omega
    have h10 : (n : Int) ≤ 10 := by omega
    have hp : 2 ^ n ≤ 2 ^ 10 := Nat.pow_le_pow_right (by omega) (by omega)
    simp only [countDisjoint, hc, h10, decide_true, Bool.and_true, if_true, Int.toNat_natCast]
    rw [disjTo_nat a b (by omega) _ (by omega)]
  have h4 := binomial_bound ((n : Int) - a) b
  rw [h3, h1]
  exact ⟨h2.1, h2.2.1, h2.2.2.1, h2.2.2.2.1, h2.2.2.2.2, h4.1, by omega⟩
theorem wrapI (n : Int) : IntKind.i64.wrap n = wrap64 n := by rw [IntKind.wrap_i64]; unfold wrap64; rfl
set_option maxHeartbeats 800000 in
theorem w_FnChance (v : Value) (n : Nat) (w : World) (hv : BytesAt w.heap.size w v n) : Calls Try.prog 14 #[v] w fun e w' => e = .returned (.bool true) ∧ Below w.heap.size w w' := by
  have HV := Lib.hid hv; clear hv
  by_cases hbig : (1048576 : Int) < n
  · (have hall := all_nil w; go_enter Try.func14, Try.ntmps14)
    go_wp2_with (go_at_call 28; refine (l_big _ n _ HV.out).mono ?_; rintro e w1 ⟨rfl, rfl⟩)
    all_goals (go_ret; refine ⟨by simp_all [], ?_⟩; (repeat (first | exact Below.refl _ _ | refine Below.alloc ?_ (by (try simp only [World.size_alloc, World.size_setCell, World.size_drew]); omega) _ | refine Below.setCell ?_ (by (try simp only [World.size_alloc, World.size_setCell, World.size_drew]); omega) _ | refine Below.drew ?_ | (refine Below.trans ?_ (Below.mono (by assumption) (by (try simp only [World.size_alloc, World.size_setCell, World.size_drew]); omega))))))
  · (have hall := all_nil w; go_enter Try.func14, Try.ntmps14)
    go_wp2_with (go_at_call 28; refine (l_big _ n _ HV.out).mono ?_; rintro e w1 ⟨rfl, rfl⟩)
    refine (s_DrawPlaces _ n _ HV.out).mono ?_; rintro e w1 ⟨pv, xs, rfl, hown, hxl, hxs, hb⟩
    obtain ⟨g, cap, rfl, _, hg, hcell⟩ := places_at hown hxl
    have c0 := hcell 0 (by omega)
    have c1 := hcell 1 (by omega)
    have c2 := hcell 2 (by omega)
    have b0 := places_in hxl hxs 0 (by omega)
    have b1 := places_in hxl hxs 1 (by omega)
    have b2 := places_in hxl hxs 2 (by omega)
    clear hcell hxs hown hxl
    generalize xs.getD 0 0 = x0 at *
    generalize xs.getD 1 0 = x1 at *
    generalize xs.getD 2 0 = x2 at *
    obtain ⟨m, hm⟩ : ∃ m, m = 1 + x0 % 9 := ⟨_, rfl⟩
    have hm1 : 1 ≤ m ∧ m ≤ 9 := by omega
    obtain ⟨a, ha⟩ : ∃ a, a = x1 % (m + 1) := ⟨_, rfl⟩
    obtain ⟨b, hb'⟩ : ∃ b, b = x2 % (m + 1) := ⟨_, rfl⟩
    have q1 := Int.emod_nonneg x1 (show m + 1 ≠ 0 by omega)
    have q2 := Int.emod_lt_of_pos x1 (show 0 < m + 1 by omega)
    have q3 := Int.emod_nonneg x2 (show m + 1 ≠ 0 by omega)
    have q4 := Int.emod_lt_of_pos x2 (show 0 < m + 1 by omega)
    have ha1 : 0 ≤ a ∧ a ≤ m := by omega
    have hb1 : 0 ≤ b ∧ b ≤ m := by omega
    have C := chance_law m a b hm1 ha1 hb1
    have HC := Lib.hid C; clear C q1 q2 q3 q4
    have e1 : 1 + x0 % 9 = m := hm.symm
    have e2 : x1 % (m + 1) = a := ha.symm
    have e3 : x2 % (m + 1) = b := hb'.symm
    clear hm ha hb'
    have r1 : chNum m b a = chNum m a b := HC.out.1.symm
    have r2 : chDen m b a = chDen m a b := HC.out.2.1.symm
    have r3 : 0 < chDen m a b := HC.out.2.2.1
    have r4 : 0 < binomial m b := HC.out.2.2.2.1
    have r5 : (wrap64 (chNum m a b * binomial m b) == wrap64 (countDisjoint m a b * chDen m a b)) = true := by rw [HC.out.2.2.2.2.1]; simp
    have r6 : (IntKind.i64.wrap (chNum m a b * binomial m b) == IntKind.i64.wrap (countDisjoint m a b * chDen m a b)) = true := by rw [wrapI, wrapI]; exact r5
    have hall : allLt [g] w1.heap.size := ⟨hg, trivial⟩
    have hx := hall
    simp only [allLt, and_true] at hx
    go_wp2_with (first | (go_at_call 37; (refine (i_MeshChance _ _ _ _).mono ?_); rintro e w2 ⟨rfl, hb⟩; (have hc := cellX hb hall (by ((try simp only [World.size_alloc, World.size_setCell, World.size_drew]); omega))); (have hf := frozenX hb hall (by ((try simp only [World.size_alloc, World.size_setCell, World.size_drew]); omega))); (try (have hc0 := cell0 hb hall (by ((try simp only [World.size_alloc, World.size_setCell, World.size_drew]); omega)); have hf0 := frozen0 hb hall (by ((try simp only [World.size_alloc, World.size_setCell, World.size_drew]); omega)); (try (have hc1 := cell1 hb hall (by ((try simp only [World.size_alloc, World.size_setCell, World.size_drew]); omega)); have hf1 := frozen1 hb hall (by ((try simp only [World.size_alloc, World.size_setCell, World.size_drew]); omega)); (try (have hc2 := cell2 hb hall (by ((try simp only [World.size_alloc, World.size_setCell, World.size_drew]); omega)); have hf2 := frozen2 hb hall (by ((try simp only [World.size_alloc, World.size_setCell, World.size_drew]); omega)); (try (have hc3 := cell3 hb hall (by ((try simp only [World.size_alloc, World.size_setCell, World.size_drew]); omega)); have hf3 := frozen3 hb hall (by ((try simp only [World.size_alloc, World.size_setCell, World.size_drew]); omega)))))))))); have hz := hb.size; (try simp only [World.size_alloc, World.size_setCell, World.size_drew] at hz); (first | (replace hall := ext4 (w2 := w2) hall (by omega)) | (replace hall := ext3 (w2 := w2) hall (by omega)) | (replace hall := ext2 (w2 := w2) hall (by omega)) | (replace hall := ext1 (w2 := w2) hall (by omega)) | (replace hall := ext0 (w2 := w2) hall (by omega))); have hx := hall; (try simp only [allLt, and_true] at hx); obtain ⟨w1, rfl⟩ : ∃ x, x = w2 := ⟨_, rfl⟩) | (go_at_call 31; (refine (i_CountDisjoint _ _ _ _).mono ?_); rintro e w2 ⟨rfl, rfl⟩) | (go_at_call 19; (refine (i_Binomial _ _ _).mono ?_); rintro e w2 ⟨rfl, rfl⟩) | (with_reducible refine wp_region_grew2 (by kernel_rfl) (by kernel_rfl) ?_; intro w2 hb; (have hc := cellX hb hall (by ((try simp only [World.size_alloc, World.size_setCell, World.size_drew]); omega))); (have hf := frozenX hb hall (by ((try simp only [World.size_alloc, World.size_setCell, World.size_drew]); omega))); (try (have hc0 := cell0 hb hall (by ((try simp only [World.size_alloc, World.size_setCell, World.size_drew]); omega)); have hf0 := frozen0 hb hall (by ((try simp only [World.size_alloc, World.size_setCell, World.size_drew]); omega)); (try (have hc1 := cell1 hb hall (by ((try simp only [World.size_alloc, World.size_setCell, World.size_drew]); omega)); have hf1 := frozen1 hb hall (by ((try simp only [World.size_alloc, World.size_setCell, World.size_drew]); omega)); (try (have hc2 := cell2 hb hall (by ((try simp only [World.size_alloc, World.size_setCell, World.size_drew]); omega)); have hf2 := frozen2 hb hall (by ((try simp only [World.size_alloc, World.size_setCell, World.size_drew]); omega)); (try (have hc3 := cell3 hb hall (by ((try simp only [World.size_alloc, World.size_setCell, World.size_drew]); omega)); have hf3 := frozen3 hb hall (by ((try simp only [World.size_alloc, World.size_setCell, World.size_drew]); omega)))))))))); have hz := hb.size; (try simp only [World.size_alloc, World.size_setCell, World.size_drew] at hz); (first | (replace hall := ext4 (w2 := w2) hall (by omega)) | (replace hall := ext3 (w2 := w2) hall (by omega)) | (replace hall := ext2 (w2 := w2) hall (by omega)) | (replace hall := ext1 (w2 := w2) hall (by omega)) | (replace hall := ext0 (w2 := w2) hall (by omega))); have hx := hall; (try simp only [allLt, and_true] at hx); obtain ⟨w1, rfl⟩ : ∃ x, x = w2 := ⟨_, rfl⟩; (repeat (go_big_quiet_step (first | (go_at_call 37; exact calls_grew (i_MeshChance _ _ _ _)) | (go_at_call 31; exact calls_same (i_CountDisjoint _ _ _ _)) | (go_at_call 19; exact calls_same (i_Binomial _ _ _))))); refine wpQuiet_nil ?_; intro w2 hw'; have hb := grew_below hw'; clear hw'; (have hc := cellX hb hall (by ((try simp only [World.size_alloc, World.size_setCell, World.size_drew]); omega))); (have hf := frozenX hb hall (by ((try simp only [World.size_alloc, World.size_setCell, World.size_drew]); omega))); (try (have hc0 := cell0 hb hall (by ((try simp only [World.size_alloc, World.size_setCell, World.size_drew]); omega)); have hf0 := frozen0 hb hall (by ((try simp only [World.size_alloc, World.size_setCell, World.size_drew]); omega)); (try (have hc1 := cell1 hb hall (by ((try simp only [World.size_alloc, World.size_setCell, World.size_drew]); omega)); have hf1 := frozen1 hb hall (by ((try simp only [World.size_alloc, World.size_setCell, World.size_drew]); omega)); (try (have hc2 := cell2 hb hall (by ((try simp only [World.size_alloc, World.size_setCell, World.size_drew]); omega)); have hf2 := frozen2 hb hall (by ((try simp only [World.size_alloc, World.size_setCell, World.size_drew]); omega)); (try (have hc3 := cell3 hb hall (by ((try simp only [World.size_alloc, World.size_setCell, World.size_drew]); omega)); have hf3 := frozen3 hb hall (by ((try simp only [World.size_alloc, World.size_setCell, World.size_drew]); omega)))))))))); have hz := hb.size; (try simp only [World.size_alloc, World.size_setCell, World.size_drew] at hz); (first | (replace hall := ext4 (w2 := w2) hall (by omega)) | (replace hall := ext3 (w2 := w2) hall (by omega)) | (replace hall := ext2 (w2 := w2) hall (by omega)) | (replace hall := ext1 (w2 := w2) hall (by omega)) | (replace hall := ext0 (w2 := w2) hall (by omega))); have hx := hall; (try simp only [allLt, and_true] at hx); obtain ⟨w1, rfl⟩ : ∃ x, x = w2 := ⟨_, rfl⟩))
    all_goals (go_ret; refine ⟨by simp_all [], ?_⟩; (repeat (first | exact Below.refl _ _ | refine Below.alloc ?_ (by (try simp only [World.size_alloc, World.size_setCell, World.size_drew]); omega) _ | refine Below.setCell ?_ (by (try simp only [World.size_alloc, World.size_setCell, World.size_drew]); omega) _ | refine Below.drew ?_ | (refine Below.trans ?_ (Below.mono (by assumption) (by (try simp only [World.size_alloc, World.size_setCell, World.size_drew]); omega))))))
namespace fnChance
theorem contract (H : Type) (enc : TypeId × Value → H) (W : World) (base : Nat) (args : Array Value) (ds gs : List (DataW H)) (before : List MemPlace)
    (hval : ∀ (j : Nat) t v, Try.f14.params[j]? = some t → args[j]? = some v → Value.okWide Try.prog W .any base t v)
    (hW : DataW.Whole enc Try.prog Try.f14.params.toList Rows.fnChanceSpec.vars false W args.toList ds gs before) :
    Calls Try.prog 14 args W fun e W' => ∃ v, e = .returned v ∧ Rows.fnChanceSpec.post enc Try.prog Try.f14 false true false false W args v W' := by
  have hW' := hW
  obtain ⟨p, q, hA0, hV, rfl, hfz, hnd⟩ := hW
  have hA : DataW.TrodAll enc Try.prog W 0 (fun _ => true) true Try.f14.params.toList args.toList ds p := hA0
  rw [Try.params14] at hA hval
  obtain ⟨v0, vs0, d0, ds0, p0, q0, hargs, rfl, rfl, h0, r0⟩ := trodAll_cons hA
  obtain ⟨rfl, rfl, rfl⟩ := trodAll_nil r0
  obtain rfl : args = #[v0] := by cases args; simp_all
  obtain ⟨rfl, rfl⟩ := trodVars_none hV
  obtain ⟨n, hv⟩ := bytes_open Try.underlying40 Try.underlying5 (by kernel_rfl) (hval 0 40 v0 rfl rfl) h0
  clear hA0
  refine (w_FnChance v0 n W hv).mono fun e W' ⟨he, hg⟩ => ?_
  subst he
  exact ⟨_, rfl, law_post (tb := 4) laidOut (by kernel_rfl) rfl rfl Try.underlying4 hW' rfl rfl rfl hg⟩
set_option maxRecDepth 100000 in
theorem lifted (os : Os) (started : os.Started) (H : Type) (enc : TypeId × Value → H) :
    ReturnsInHanded {} Try.checked os 14 .any (Rows.fnChanceSpec.pre6 enc Try.prog Try.f14 Rows.fnChanceRow.domain false) (Rows.fnChanceSpec.post enc Try.prog Try.f14 false true false false) := by
  refine returnsInHanded_of_change (C := Try.checked) own started (by kernel_rfl) Try.func14
    (ChangeSpec.witness6 (enc := enc) (C := Try.checked) false ⟨#[], #[.slice none 0 0], []⟩ 8 (by kernel_rfl) (by kernel_rfl) (by kernel_rfl) (by kernel_rfl)) ?_
  intro W base args ds gs before hval hW _ _
  exact contract H enc W base args ds gs before hval hW
/-- The statement. -/
theorem proved : Rows.FnChanceSaid :=
  OpenClaim.holds_of_wide 14 Try.f14 rfl rfl rfl rfl rfl rfl rfl ⟨rfl, rfl, rfl, rfl, rfl⟩ rfl rfl rfl rfl rfl (by kernel_rfl) Try.func14 (by kernel_rfl)
    (of_decide_eq_true (by kernel_rfl)) (by unfold Func.isWrapper; first | (rw [if_pos (by decide +kernel)]; kernel_rfl) | (rw [if_neg (by decide +kernel)]; exact ⟨rfl, rfl⟩))
    (fun os started H enc _ => lifted os started H enc)
end fnChance

end Go.Proofs.Ytohmpjabplmleaa
