/- 'laws.FnSpans' returns true, whatever the bytes: no condition. -/
import Derived.Test.YtoopdfnpfeeanaaTake
import Derived.Test.YtoopdfnpfeeanaaDraw4
import Derived.Test.YtoopdfnpfeeanaaBits
import Derived.Test.YtoopdfnpfeeanaaFrameB
import Derived.Deep.RegionHeld3
import Derived.Laws.StructEq
set_option linter.unusedVariables false
set_option linter.unusedSimpArgs false
namespace Go.Proofs.Ytoopdfnpfeeanaa
open Go.ChangeShapes Go.WideShapes Go.ChangeAt Go.RowKit
theorem eqlSp (w : World) (a b c a' b' c' : Int) : (binOp .eql 25 (.agg #[.int .i64 a, .int .i64 b, .int .i64 c]) (.agg #[.int .i64 a', .int .i64 b', .int .i64 c'])).run Try.prog w = .ok (.bool ((a == a') && ((b == b') && (c == c')))) w := by
  rw [run_eql_struct, run_equalIn_agg (P := Try.prog) w 9999 _ _ _ (by kernel_rfl) (by kernel_rfl)]
  by_cases h1 : a = a'
  · subst h1
    by_cases h2 : b = b'
    · subst h2
      by_cases h3 : c = c'
      · subst h3
        simp [go_sem]
      · simp [go_sem, h3]
    · simp [go_sem, h2]
  · simp [go_sem, h1]
attribute [go_sem ↓] eqlSp
/-- What is known of a span that was drawn. -/
theorem drawn_span {p c b : Int} (hp : 0 ≤ p ∧ p ≤ 7) (hc : 0 ≤ c ∧ c ≤ 3) (hb : 0 ≤ b ∧ b < 2 ^ slotsNat c) : spanOk p c b = true ∧ slotsOf c = (slotsNat c : Int) ∧ 1 ≤ slotsNat c ∧ slotsNat c ≤ 16 ∧ b < 65536 := by
  have h1 := slotsOf_bound c
  have h2 : 1 ≤ slotsOf c := by rcases class_cases (between_iff.2 hc) with rfl | rfl | rfl | rfl <;> decide
  have h3 : slotsOf c = (slotsNat c : Int) := by unfold slotsNat; omega
  have h4 : ((2 : Int) ^ slotsNat c) ≤ 65536 := ((by decide : ∀ m : Fin 17, (2 : Int) ^ m.val ≤ 65536) ⟨slotsNat c, by omega⟩)
  refine ⟨?_, h3, by omega, by omega, by omega⟩
  simp only [spanOk, Bool.and_eq_true, between_iff, bitmapOk, h3, Int.toNat_natCast]
  omega
theorem span_law {p c b seed : Int} (hp : 0 ≤ p ∧ p ≤ 7) (hc : 0 ≤ c ∧ c ≤ 3) (hb : 0 ≤ b ∧ b < 2 ^ slotsNat c) (hs : 0 ≤ seed ∧ seed ≤ 9999) :
    (takeOk p c b seed = false → spanFull p c b = true ∧ takeSlot p c b seed = -1 ∧ takeSeed p c b seed = seed) ∧
    (takeOk p c b seed = true → hasSlot b (takeSlot p c b seed) = false ∧ spanOk p c (takeBits p c b seed) = true ∧ hasSlot (takeBits p c b seed) (takeSlot p c b seed) = true ∧
      giveBits p c (takeBits p c b seed) (takeSlot p c b seed) = b ∧ takeSeed p c b seed = nextSeed seed) := by
  obtain ⟨hok, hn, hn1, hn16, hb16⟩ := drawn_span hp hc hb
  have hseed : between seed 0 1073741823 = true := between_iff.2 (by omega)
  have hbm := (spanOk_parts' hok).2.2
  constructor
  · intro h
    have hlen : (((takeFree c b).length : Int) == 0) = true := by
      cases h1 : (((takeFree c b).length : Int) == 0)
      · simp [takeOk, hok, hseed, h1] at h
      · rfl
    refine ⟨?_, by simp [takeSlot, h], by simp [takeSeed, h]⟩
    unfold spanFull
    rw [hok]; exact hlen
  · intro h
    have hpos : 1 ≤ ((takeFree c b).length : Int) := by
      simp only [takeOk, Bool.and_eq_true, Bool.not_eq_true', beq_eq_false_iff_ne] at h
      have := h.2.2
      omega
    have hk := chooseK_in (s := seed) (n := (takeFree c b).length) hpos
    have hkn : takeK c b seed < (takeFree c b).length := by unfold takeK; omega
    have hmem : (takeFree c b).getD (takeK c b seed) 0 ∈ takeFree c b := by
      rw [List.getD_eq_getElem?_getD, List.getElem?_eq_getElem hkn, Option.getD_some]; exact List.getElem_mem _
    have hlen := takeFree_len c b
    have hch : chooseOk seed (takeFree c b).length = true := by simp only [chooseOk, hseed, Bool.true_and]; exact between_iff.2 (by omega)
    have e1 : takeSlot p c b seed = (takeFree c b).getD (takeK c b seed) 0 := by simp [takeSlot, h]
    have e2 : takeBits p c b seed = withSlot b ((takeFree c b).getD (takeK c b seed) 0) := by simp [takeBits, h]
    have e3 : takeSeed p c b seed = nextSeed seed := by simp [takeSeed, h, chooseS, hch]
    rw [e1, e2, e3]
    generalize (takeFree c b).getD (takeK c b seed) 0 = x at *
    have hf : takeFree c b = freeTo b (slotsNat c) := by unfold takeFree freeSlots; rw [if_pos hbm, hn, Int.toNat_natCast]
    rw [hf, mem_freeTo] at hmem
    obtain ⟨b, rfl⟩ := Int.eq_ofNat_of_zero_le hb.1
    obtain ⟨i, rfl⟩ := Int.eq_ofNat_of_zero_le hmem.1.1
    have hb' : b < 65536 := by omega
    have hi : i < slotsNat c := by omega
    have hbit : b.testBit i = false := by rw [← hasSlot_bit b i hb' (by omega)]; exact hmem.2
    have hw := withSlot_bit b i hb' (by omega)
    have hbn : b < 2 ^ slotsNat c := by have : ((2 : Int) ^ slotsNat c) = ((2 ^ slotsNat c : Nat) : Int) := by simp
                                        omega
    have hor : b ||| 2 ^ i < 2 ^ slotsNat c := Nat.or_lt_two_pow hbn (Nat.pow_lt_pow_right (by omega) hi)
    have h16 : 2 ^ slotsNat c ≤ 2 ^ 16 := Nat.pow_le_pow_right (by omega) hn16
    have hcast : ((2 : Int) ^ slotsNat c) = ((2 ^ slotsNat c : Nat) : Int) := by simp
    have d := drawn_span (b := ((b ||| 2 ^ i : Nat) : Int)) hp hc (by omega)
    have hh : hasSlot ((b ||| 2 ^ i : Nat) : Int) (i : Int) = true := by rw [hasSlot_bit _ _ (by omega) (by omega), Nat.testBit_or, Nat.testBit_two_pow_self]; simp
    rw [hw]
    refine ⟨hmem.2, d.1, hh, ?_, rfl⟩
    unfold giveBits
    rw [d.1, hh, Bool.true_and, if_pos rfl, withoutSlot_bit _ _ (by omega) (by omega), slot_back b i hb' (by omega) hbit]
set_option maxHeartbeats 800000 in
theorem w_FnSpans (v : Value) (n : Nat) (w : World) (hv : BytesAt w.heap.size w v n) : Calls Try.prog 8 #[v] w fun e w' => e = .returned (.bool true) ∧ Below w.heap.size w w' := by
  have HV := Lib.hid hv; clear hv
  by_cases hbig : (1048576 : Int) < n
  · (have hall := all_nil w; go_enter Try.func8, Try.ntmps8)
    go_wp2_with (go_at_call 18; refine (l_big _ n _ HV.out).mono ?_; rintro e w1 ⟨rfl, rfl⟩)
    all_goals (go_ret; refine ⟨by simp_all [], ?_⟩; exact bel)
  · (have hall := all_nil w; go_enter Try.func8, Try.ntmps8)
    go_wp2_with (go_at_call 18; refine (l_big _ n _ HV.out).mono ?_; rintro e w1 ⟨rfl, rfl⟩)
    refine (s_DrawSpan _ n _ HV.out).mono ?_; rintro e w2 ⟨⟨p, c, b⟩, rfl, hpp, hcc, hbb, hb⟩; simp only [Sp.val] at *
    have HB1 := Lib.hid hb
    (first | have hn := nw4 hb hall (by exact zo) | have hn := nw3 hb hall (by exact zo) | have hn := nw2 hb hall (by exact zo) | have hn := nw1 hb hall (by exact zo) | have hn := nw0 hb hall (by exact zo)); obtain ⟨hc, hf, hn, hc0⟩ := hn; replace hall := hn; clear hn; have hz := hb.size; (try simp only [World.size_alloc, World.size_setCell, World.size_drew] at hz); have hx := hall; (try simp only [allLt, and_true] at hx); obtain ⟨w1, rfl⟩ : ∃ x, x = w2 := ⟨_, rfl⟩
    obtain ⟨B0, hB0⟩ : ∃ x, x = w1.heap.size := ⟨_, rfl⟩
    have hwB : w.heap.size ≤ B0 := by omega
    go_wp2_with fail
    refine (s_DrawPlaces _ n _ (by first | exact HV.out.grew (by have hB := HB1.out; exact bel))).mono ?_; rintro e w2 ⟨pv, xs, rfl, hown, hxl, hxs, hb⟩
    obtain ⟨g, cap, rfl, hgB, hg, hcell⟩ := places_at hown hxl
    have c0 := hcell 0 (by omega)
    have b0 := places_in hxl hxs 0 (by omega)
    clear hcell hxs hown hxl
    generalize xs.getD 0 0 = seed at *
    have L := span_law hpp hcc hbb b0
    have D := drawn_span hpp hcc hbb
    have HL := Lib.hid L; have HD := Lib.hid D; clear L D hpp hcc hbb
    (first | have hn := nw4 hb hall (by exact zo) | have hn := nw3 hb hall (by exact zo) | have hn := nw2 hb hall (by exact zo) | have hn := nw1 hb hall (by exact zo) | have hn := nw0 hb hall (by exact zo)); obtain ⟨hc, hf, hn, hc0⟩ := hn; replace hall := hn; clear hn; have hz := hb.size; (try simp only [World.size_alloc, World.size_setCell, World.size_drew] at hz); have hx := hall; (try simp only [allLt, and_true] at hx); obtain ⟨w1, rfl⟩ : ∃ x, x = w2 := ⟨_, rfl⟩
    have k0 : w1.cell? ⟨B0, 0, none⟩ = some (.int .i64 p) := by rw [hB0]; go_simp
    have k1 : w1.cell? ⟨B0, 1, none⟩ = some (.int .i64 c) := by rw [hB0]; go_simp
    have k2 : w1.cell? ⟨B0, 2, none⟩ = some (.int .i64 b) := by rw [hB0]; go_simp
    have HB2 : Hid (Below w.heap.size w w1) := by have hB := HB1.out; unfold Hid; exact bel
    rw [← hB0]
    replace hall : allLt [g, B0] w1.heap.size := ⟨by omega, by omega, trivial⟩
    replace hx := hall
    simp only [allLt, and_true] at hx
    have hgne : ¬ g = B0 := by have := hgB; simp only [World.size_alloc] at this; omega
    have hgne2 : ¬ B0 = g := by omega
    clear hb hc hf hc0 hz hgB hg hB0 HB1
    have s1 : between seed 0 1073741823 = true := between_iff.2 (by omega)
    have o1 := HD.out.1
    cases ht : takeOk p c b seed
    · obtain ⟨t1, t2, t3⟩ := HL.out.1 ht
      have CT := Lib.hid (fun w => i_SpanTake p c b seed w)
      rw [ht, t2, t3] at CT
      generalize takeBits p c b seed = bx at *
      go_wp2_with (first | (with_reducible refine wp_region_grew2 (by kernel_rfl) (by kernel_rfl) ?_; intro w2 hb; (first | have hn := nw4 hb hall (by exact zo) | have hn := nw3 hb hall (by exact zo) | have hn := nw2 hb hall (by exact zo) | have hn := nw1 hb hall (by exact zo) | have hn := nw0 hb hall (by exact zo)); obtain ⟨hc, hf, hn, hc0⟩ := hn; replace hall := hn; clear hn; have hz := hb.size; (try simp only [World.size_alloc, World.size_setCell, World.size_drew] at hz); have hx := hall; (try simp only [allLt, and_true] at hx); obtain ⟨w1, rfl⟩ : ∃ x, x = w2 := ⟨_, rfl⟩; (repeat (go_big_quiet_step (fail))); refine wpQuiet_nil ?_; intro w2 hw'; have hb := grew_below hw'; clear hw'; (first | have hn := nw4 hb hall (by exact zo) | have hn := nw3 hb hall (by exact zo) | have hn := nw2 hb hall (by exact zo) | have hn := nw1 hb hall (by exact zo) | have hn := nw0 hb hall (by exact zo)); obtain ⟨hc, hf, hn, hc0⟩ := hn; replace hall := hn; clear hn; have hz := hb.size; (try simp only [World.size_alloc, World.size_setCell, World.size_drew] at hz); have hx := hall; (try simp only [allLt, and_true] at hx); obtain ⟨w1, rfl⟩ : ∃ x, x = w2 := ⟨_, rfl⟩))
      go_region_held3 (fun w' => w'.cell? ⟨g, 0, none⟩ = some (.int .i64 seed) ∧ w'.cell? ⟨B0, 0, none⟩ = some (.int .i64 p) ∧ w'.cell? ⟨B0, 1, none⟩ = some (.int .i64 c) ∧ w'.cell? ⟨B0, 2, none⟩ = some (.int .i64 b)) (first | (refine ⟨?_, ?_, ?_, ?_⟩ <;> (go_simp; done)) | go_keep) (first | (go_at_call 31; refine (CT.out _).mono ?_; rintro e w2 ⟨rfl, hb⟩; (first | have hn := nw4 hb hall (by exact zo) | have hn := nw3 hb hall (by exact zo) | have hn := nw2 hb hall (by exact zo) | have hn := nw1 hb hall (by exact zo) | have hn := nw0 hb hall (by exact zo)); obtain ⟨hc, hf, hn, hc0⟩ := hn; replace hall := hn; clear hn; have hz := hb.size; (try simp only [World.size_alloc, World.size_setCell, World.size_drew] at hz); have hx := hall; (try simp only [allLt, and_true] at hx); obtain ⟨w1, rfl⟩ : ∃ x, x = w2 := ⟨_, rfl⟩))
      all_goals go_wp2_with (first | (go_at_call 17; (first | (refine (i_SpanFull _ _ _ true (by assumption) _).mono ?_) | (refine (i_SpanFull _ _ _ false (by assumption) _).mono ?_) | (refine (i_SpanFull _ _ _ _ rfl _).mono ?_)); rintro e w2 ⟨rfl, hb⟩; (first | have hn := nw4 hb hall (by exact zo) | have hn := nw3 hb hall (by exact zo) | have hn := nw2 hb hall (by exact zo) | have hn := nw1 hb hall (by exact zo) | have hn := nw0 hb hall (by exact zo)); obtain ⟨hc, hf, hn, hc0⟩ := hn; replace hall := hn; clear hn; have hz := hb.size; (try simp only [World.size_alloc, World.size_setCell, World.size_drew] at hz); have hx := hall; (try simp only [allLt, and_true] at hx); obtain ⟨w1, rfl⟩ : ∃ x, x = w2 := ⟨_, rfl⟩) | (with_reducible refine wp_region_grew2 (by kernel_rfl) (by kernel_rfl) ?_; intro w2 hb; (first | have hn := nw4 hb hall (by exact zo) | have hn := nw3 hb hall (by exact zo) | have hn := nw2 hb hall (by exact zo) | have hn := nw1 hb hall (by exact zo) | have hn := nw0 hb hall (by exact zo)); obtain ⟨hc, hf, hn, hc0⟩ := hn; replace hall := hn; clear hn; have hz := hb.size; (try simp only [World.size_alloc, World.size_setCell, World.size_drew] at hz); have hx := hall; (try simp only [allLt, and_true] at hx); obtain ⟨w1, rfl⟩ : ∃ x, x = w2 := ⟨_, rfl⟩; (repeat (go_big_quiet_step (first | (go_at_call 17; first | exact calls_grew (i_SpanFull _ _ _ true (by assumption) _) | exact calls_grew (i_SpanFull _ _ _ false (by assumption) _) | exact calls_grew (i_SpanFull _ _ _ _ rfl _))))); refine wpQuiet_nil ?_; intro w2 hw'; have hb := grew_below hw'; clear hw'; (first | have hn := nw4 hb hall (by exact zo) | have hn := nw3 hb hall (by exact zo) | have hn := nw2 hb hall (by exact zo) | have hn := nw1 hb hall (by exact zo) | have hn := nw0 hb hall (by exact zo)); obtain ⟨hc, hf, hn, hc0⟩ := hn; replace hall := hn; clear hn; have hz := hb.size; (try simp only [World.size_alloc, World.size_setCell, World.size_drew] at hz); have hx := hall; (try simp only [allLt, and_true] at hx); obtain ⟨w1, rfl⟩ : ∃ x, x = w2 := ⟨_, rfl⟩))
      all_goals (have hB := HB2.out; have hBs := hB.size)
      all_goals (go_ret; refine ⟨by simp_all [], ?_⟩; exact bel)
    · obtain ⟨t1, t2, t3, t4, t5⟩ := HL.out.2 ht
      have CT := Lib.hid (fun w => i_SpanTake p c b seed w)
      rw [ht, t5] at CT
      have G1 := Lib.hid (fun w => i_SpanGive p c (takeBits p c b seed) (takeSlot p c b seed) w)
      rw [t4, show (spanOk p c (takeBits p c b seed) && hasSlot (takeBits p c b seed) (takeSlot p c b seed)) = true by rw [t2, t3]; rfl] at G1
      have G2 := Lib.hid (fun w => i_SpanGive p c b (takeSlot p c b seed) w)
      rw [show (spanOk p c b && hasSlot b (takeSlot p c b seed)) = false by rw [t1, Bool.and_false], show giveBits p c b (takeSlot p c b seed) = b by simp [giveBits, t1]] at G2
      generalize takeBits p c b seed = bx at *
      generalize takeSlot p c b seed = slot at *
      go_wp2_with (first | (with_reducible refine wp_region_grew2 (by kernel_rfl) (by kernel_rfl) ?_; intro w2 hb; (first | have hn := nw4 hb hall (by exact zo) | have hn := nw3 hb hall (by exact zo) | have hn := nw2 hb hall (by exact zo) | have hn := nw1 hb hall (by exact zo) | have hn := nw0 hb hall (by exact zo)); obtain ⟨hc, hf, hn, hc0⟩ := hn; replace hall := hn; clear hn; have hz := hb.size; (try simp only [World.size_alloc, World.size_setCell, World.size_drew] at hz); have hx := hall; (try simp only [allLt, and_true] at hx); obtain ⟨w1, rfl⟩ : ∃ x, x = w2 := ⟨_, rfl⟩; (repeat (go_big_quiet_step (fail))); refine wpQuiet_nil ?_; intro w2 hw'; have hb := grew_below hw'; clear hw'; (first | have hn := nw4 hb hall (by exact zo) | have hn := nw3 hb hall (by exact zo) | have hn := nw2 hb hall (by exact zo) | have hn := nw1 hb hall (by exact zo) | have hn := nw0 hb hall (by exact zo)); obtain ⟨hc, hf, hn, hc0⟩ := hn; replace hall := hn; clear hn; have hz := hb.size; (try simp only [World.size_alloc, World.size_setCell, World.size_drew] at hz); have hx := hall; (try simp only [allLt, and_true] at hx); obtain ⟨w1, rfl⟩ : ∃ x, x = w2 := ⟨_, rfl⟩))
      go_region_held3 (fun w' => w'.cell? ⟨g, 0, none⟩ = some (.int .i64 seed) ∧ w'.cell? ⟨B0, 0, none⟩ = some (.int .i64 p) ∧ w'.cell? ⟨B0, 1, none⟩ = some (.int .i64 c) ∧ w'.cell? ⟨B0, 2, none⟩ = some (.int .i64 b)) (first | (refine ⟨?_, ?_, ?_, ?_⟩ <;> (go_simp; done)) | go_keep) (first | (go_at_call 31; refine (CT.out _).mono ?_; rintro e w2 ⟨rfl, hb⟩; (first | have hn := nw4 hb hall (by exact zo) | have hn := nw3 hb hall (by exact zo) | have hn := nw2 hb hall (by exact zo) | have hn := nw1 hb hall (by exact zo) | have hn := nw0 hb hall (by exact zo)); obtain ⟨hc, hf, hn, hc0⟩ := hn; replace hall := hn; clear hn; have hz := hb.size; (try simp only [World.size_alloc, World.size_setCell, World.size_drew] at hz); have hx := hall; (try simp only [allLt, and_true] at hx); obtain ⟨w1, rfl⟩ : ∃ x, x = w2 := ⟨_, rfl⟩))
      all_goals go_wp2_with (first | (go_at_call 23; (first | (with_reducible refine (G1.out _).mono ?_) | (with_reducible refine (G2.out _).mono ?_)); rintro e w2 ⟨rfl, hb⟩; (first | have hn := nw4 hb hall (by exact zo) | have hn := nw3 hb hall (by exact zo) | have hn := nw2 hb hall (by exact zo) | have hn := nw1 hb hall (by exact zo) | have hn := nw0 hb hall (by exact zo)); obtain ⟨hc, hf, hn, hc0⟩ := hn; replace hall := hn; clear hn; have hz := hb.size; (try simp only [World.size_alloc, World.size_setCell, World.size_drew] at hz); have hx := hall; (try simp only [allLt, and_true] at hx); obtain ⟨w1, rfl⟩ : ∃ x, x = w2 := ⟨_, rfl⟩) | (go_at_call 35; (refine (s_NextSeed _ _).mono ?_); rintro e w2 ⟨rfl, rfl⟩) | (go_at_call 34; (first | (refine (i_SpanOk _ _ _ true (by assumption) _).mono ?_) | (refine (i_SpanOk _ _ _ false (by assumption) _).mono ?_) | (refine (i_SpanOk _ _ _ _ rfl _).mono ?_)); rintro e w2 ⟨rfl, hb⟩; (first | have hn := nw4 hb hall (by exact zo) | have hn := nw3 hb hall (by exact zo) | have hn := nw2 hb hall (by exact zo) | have hn := nw1 hb hall (by exact zo) | have hn := nw0 hb hall (by exact zo)); obtain ⟨hc, hf, hn, hc0⟩ := hn; replace hall := hn; clear hn; have hz := hb.size; (try simp only [World.size_alloc, World.size_setCell, World.size_drew] at hz); have hx := hall; (try simp only [allLt, and_true] at hx); obtain ⟨w1, rfl⟩ : ∃ x, x = w2 := ⟨_, rfl⟩) | (go_at_call 33; (first | (refine (s_HasSlot _ _ true (by assumption) _).mono ?_) | (refine (s_HasSlot _ _ false (by assumption) _).mono ?_) | (refine (s_HasSlot _ _ _ rfl _).mono ?_)); rintro e w2 ⟨rfl, rfl⟩) | (with_reducible refine wp_region_grew2 (by kernel_rfl) (by kernel_rfl) ?_; intro w2 hb; (first | have hn := nw4 hb hall (by exact zo) | have hn := nw3 hb hall (by exact zo) | have hn := nw2 hb hall (by exact zo) | have hn := nw1 hb hall (by exact zo) | have hn := nw0 hb hall (by exact zo)); obtain ⟨hc, hf, hn, hc0⟩ := hn; replace hall := hn; clear hn; have hz := hb.size; (try simp only [World.size_alloc, World.size_setCell, World.size_drew] at hz); have hx := hall; (try simp only [allLt, and_true] at hx); obtain ⟨w1, rfl⟩ : ∃ x, x = w2 := ⟨_, rfl⟩; (repeat (go_big_quiet_step (first | (go_at_call 35; exact calls_same (s_NextSeed _ _)) | (go_at_call 34; first | exact calls_grew (i_SpanOk _ _ _ true (by assumption) _) | exact calls_grew (i_SpanOk _ _ _ false (by assumption) _) | exact calls_grew (i_SpanOk _ _ _ _ rfl _)) | (go_at_call 33; first | exact calls_same (s_HasSlot _ _ true (by assumption) _) | exact calls_same (s_HasSlot _ _ false (by assumption) _) | exact calls_same (s_HasSlot _ _ _ rfl _))))); refine wpQuiet_nil ?_; intro w2 hw'; have hb := grew_below hw'; clear hw'; (first | have hn := nw4 hb hall (by exact zo) | have hn := nw3 hb hall (by exact zo) | have hn := nw2 hb hall (by exact zo) | have hn := nw1 hb hall (by exact zo) | have hn := nw0 hb hall (by exact zo)); obtain ⟨hc, hf, hn, hc0⟩ := hn; replace hall := hn; clear hn; have hz := hb.size; (try simp only [World.size_alloc, World.size_setCell, World.size_drew] at hz); have hx := hall; (try simp only [allLt, and_true] at hx); obtain ⟨w1, rfl⟩ : ∃ x, x = w2 := ⟨_, rfl⟩))
      all_goals (have hB := HB2.out; have hBs := hB.size)
      all_goals (go_ret; refine ⟨by simp_all [], ?_⟩; exact bel)
namespace fnSpans
set_option maxRecDepth 100000 in
theorem contract (H : Type) (enc : TypeId × Value → H) (W : World) (base : Nat) (args : Array Value) (ds gs : List (DataW H)) (before : List MemPlace)
    (hval : ∀ (j : Nat) t v, Try.f8.params[j]? = some t → args[j]? = some v → Value.okWide Try.prog W .any base t v)
    (hW : DataW.Whole enc Try.prog Try.f8.params.toList Rows.fnSpansSpec.vars false W args.toList ds gs before) :
    Calls Try.prog 8 args W fun e W' => ∃ v, e = .returned v ∧ Rows.fnSpansSpec.post enc Try.prog Try.f8 false true false false W args v W' := by
  have hW' := hW
  obtain ⟨p, q, hA0, hV, rfl, hfz, hnd⟩ := hW
  have hA : DataW.TrodAll enc Try.prog W 0 (fun _ => true) true Try.f8.params.toList args.toList ds p := hA0
  rw [Try.params8] at hA hval
  obtain ⟨v0, vs0, d0, ds0, p0, q0, hargs, rfl, rfl, h0, r0⟩ := trodAll_cons hA
  obtain ⟨rfl, rfl, rfl⟩ := trodAll_nil r0
  obtain rfl : args = #[v0] := by cases args; simp_all
  obtain ⟨rfl, rfl⟩ := trodVars_none hV
  obtain ⟨n, hv⟩ := bytes_open Try.underlying28 Try.underlying5 (by kernel_rfl) (hval 0 28 v0 rfl rfl) h0
  clear hA0
  refine (w_FnSpans v0 n W hv).mono fun e W' ⟨he, hg⟩ => ?_
  subst he
  exact ⟨_, rfl, law_post (tb := 4) laidOut (by kernel_rfl) rfl rfl Try.underlying4 hW' rfl rfl rfl hg⟩
set_option maxRecDepth 100000 in
theorem lifted (os : Os) (started : os.Started) (H : Type) (enc : TypeId × Value → H) :
    ReturnsInHanded {} Try.checked os 8 .any (Rows.fnSpansSpec.pre6 enc Try.prog Try.f8 Rows.fnSpansRow.domain false) (Rows.fnSpansSpec.post enc Try.prog Try.f8 false true false false) := by
  refine returnsInHanded_of_change (C := Try.checked) own started (by kernel_rfl) Try.func8
    (ChangeSpec.witness6 (enc := enc) (C := Try.checked) false ⟨#[], #[.slice none 0 0], []⟩ 8 (by kernel_rfl) (by kernel_rfl) (by kernel_rfl) (by kernel_rfl)) ?_
  intro W base args ds gs before hval hW _ _
  exact contract H enc W base args ds gs before hval hW
/-- The statement. -/
theorem proved : Rows.FnSpansSaid :=
  OpenClaim.holds_of_wide 8 Try.f8 rfl rfl rfl rfl rfl rfl rfl ⟨rfl, rfl, rfl, rfl, rfl⟩ rfl rfl rfl rfl rfl (by kernel_rfl) Try.func8 (by kernel_rfl)
    (of_decide_eq_true (by kernel_rfl)) (by unfold Func.isWrapper; first | (rw [if_pos (by decide +kernel)]; kernel_rfl) | (rw [if_neg (by decide +kernel)]; exact ⟨rfl, rfl⟩))
    (fun os started H enc _ => lifted os started H enc)
end fnSpans

end Go.Proofs.Ytoopdfnpfeeanaa
