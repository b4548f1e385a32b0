/- emendref01's FAdd, FMul, FDiv, FNeg, FLess, FEqual of any floats. -/
import Derived.Test.YtoonneminimbfaaGreatDoorFAdd0
import Derived.Test.YtoonneminimbfaaGreatDoorFAddS
import Derived.Test.YtoonneminimbfaaGreatDoorFAddE
import Derived.Test.YtoonneminimbfaaGreatDoorFAddG
import Derived.Test.YtoonneminimbfaaGreatDoorFAddL
import Derived.Test.YtoonneminimbfaaGreatDoorFMul
import Derived.Test.YtoonneminimbfaaGreatDoorFDiv
namespace Go.Proofs.YtoonneminimbfaaGreatDoor
open Go.RowKit
set_option linter.unusedVariables false
set_option linter.unusedSimpArgs false

theorem spM_ne {b : Nat} (h : ¬ zerB b) : spM b ≠ 0 := fun e => h (spM_zero.1 e)
theorem two_ne {m k : Nat} (h : m ≠ 0) : m * 2 ^ k ≠ 0 := Nat.mul_ne_zero h (Nat.pos_iff_ne_zero.1 (Nat.two_pow_pos _))
theorem min_is (i j : Int) : (if j < i then j else i) = min i j := by split <;> omega

theorem refFAdd_fin (a b : Nat) (ha : a < 18446744073709551616) (hb : b < 18446744073709551616) (na : nanB a = false) (nb : nanB b = false) (ia : ¬ infB a) (ib : ¬ infB b) (za : ¬ zerB a) (zb : ¬ zerB b) (w : World) :
    Calls Tryz.prog 38 #[.int .u64 a, .int .u64 b] w fun e w' => FO .add a b e ∧ Below w.heap.size w w' := by
  have hNa : NN a false := ⟨ha, na⟩
  have hNb : NN b false := ⟨hb, nb⟩
  have hIa : II a false := decide_eq_false ia
  have hIb : II b false := decide_eq_false ib
  have hZa : ZZ a false := decide_eq_false za
  have hZb : ZZ b false := decide_eq_false zb
  have hsa : SPL a (spM a) (spE a) := ⟨ha, rfl, rfl⟩
  have hsb : SPL b (spM b) (spE b) := ⟨hb, rfl, rfl⟩
  have fa := fin_of na ia
  have fb := fin_of nb ib
  have hu : spE a - min (spE a) (spE b) = ((spE a - min (spE a) (spE b)).toNat : Int) := by omega
  have hv : spE b - min (spE a) (spE b) = ((spE b - min (spE a) (spE b)).toNat : Int) := by omega
  by_cases hs : sg a = sg b
  · have hA := add_alike ha hb fa fb za hs
    have hz : spM a * 2 ^ (spE a - min (spE a) (spE b)).toNat ≠ 0 := two_ne (spM_ne za)
    cases hg : sg a with
    | false =>
      rw [hg] at hA
      exact (fadd_sf a b _ _ _ _ _ _ _ _ _ w hNa hNb hIa hIb hZa hZb hg (hs.symm.trans hg) hsa hsb (spM_lt a) (spM_lt b) (spE_lo a) (spE_hi a ha na) (spE_lo b) (spE_hi b hb nb) rfl hu hv rfl rfl hz).mono fun e w' ⟨h1, h2⟩ => ⟨fo_some hA (word_lt _ _ (nr_le _ _)) h1, h2⟩
    | true =>
      rw [hg] at hA
      exact (fadd_st a b _ _ _ _ _ _ _ _ _ w hNa hNb hIa hIb hZa hZb hg (hs.symm.trans hg) hsa hsb (spM_lt a) (spM_lt b) (spE_lo a) (spE_hi a ha na) (spE_lo b) (spE_hi b hb nb) rfl hu hv rfl rfl hz).mono fun e w' ⟨h1, h2⟩ => ⟨fo_some hA (word_lt _ _ (nr_le _ _)) h1, h2⟩
  · obtain ⟨h1, h2, h3⟩ := add_other ha hb fa fb hs _ _ rfl rfl
    cases hg : sg a with
    | false =>
      have hg2 : sg b = true := by cases h : sg b with
        | false => exact absurd (hg.trans h.symm) hs
        | true => rfl
      rw [hg] at h2
      rw [hg2] at h3
      rcases Nat.lt_trichotomy (spM a * 2 ^ (spE a - min (spE a) (spE b)).toNat) (spM b * 2 ^ (spE b - min (spE a) (spE b)).toNat) with hz | hz | hz
      · exact (fadd_lf a b _ _ _ _ _ _ _ _ _ w hNa hNb hIa hIb hZa hZb hg hg2 hsa hsb (spM_lt a) (spM_lt b) (spE_lo a) (spE_hi a ha na) (spE_lo b) (spE_hi b hb nb) rfl hu hv rfl rfl hz).mono fun e w' ⟨p1, p2⟩ => ⟨fo_some (h3 hz) (word_lt _ _ (nr_le _ _)) p1, p2⟩
      · exact (fadd_ef a b _ _ _ _ _ _ _ _ _ w hNa hNb hIa hIb hZa hZb hg hg2 hsa hsb (spM_lt a) (spM_lt b) (spE_lo a) (spE_hi a ha na) (spE_lo b) (spE_hi b hb nb) rfl hu hv rfl rfl hz).mono fun e w' ⟨p1, p2⟩ => ⟨fo_some (h1 hz) (by decide) p1, p2⟩
      · exact (fadd_gf a b _ _ _ _ _ _ _ _ _ w hNa hNb hIa hIb hZa hZb hg hg2 hsa hsb (spM_lt a) (spM_lt b) (spE_lo a) (spE_hi a ha na) (spE_lo b) (spE_hi b hb nb) rfl hu hv rfl rfl hz).mono fun e w' ⟨p1, p2⟩ => ⟨fo_some (h2 hz) (word_lt _ _ (nr_le _ _)) p1, p2⟩
    | true =>
      have hg2 : sg b = false := by cases h : sg b with
        | true => exact absurd (hg.trans h.symm) hs
        | false => rfl
      rw [hg] at h2
      rw [hg2] at h3
      rcases Nat.lt_trichotomy (spM a * 2 ^ (spE a - min (spE a) (spE b)).toNat) (spM b * 2 ^ (spE b - min (spE a) (spE b)).toNat) with hz | hz | hz
      · exact (fadd_lt a b _ _ _ _ _ _ _ _ _ w hNa hNb hIa hIb hZa hZb hg hg2 hsa hsb (spM_lt a) (spM_lt b) (spE_lo a) (spE_hi a ha na) (spE_lo b) (spE_hi b hb nb) rfl hu hv rfl rfl hz).mono fun e w' ⟨p1, p2⟩ => ⟨fo_some (h3 hz) (word_lt _ _ (nr_le _ _)) p1, p2⟩
      · exact (fadd_et a b _ _ _ _ _ _ _ _ _ w hNa hNb hIa hIb hZa hZb hg hg2 hsa hsb (spM_lt a) (spM_lt b) (spE_lo a) (spE_hi a ha na) (spE_lo b) (spE_hi b hb nb) rfl hu hv rfl rfl hz).mono fun e w' ⟨p1, p2⟩ => ⟨fo_some (h1 hz) (by decide) p1, p2⟩
      · exact (fadd_gt a b _ _ _ _ _ _ _ _ _ w hNa hNb hIa hIb hZa hZb hg hg2 hsa hsb (spM_lt a) (spM_lt b) (spE_lo a) (spE_hi a ha na) (spE_lo b) (spE_hi b hb nb) rfl hu hv rfl rfl hz).mono fun e w' ⟨p1, p2⟩ => ⟨fo_some (h2 hz) (word_lt _ _ (nr_le _ _)) p1, p2⟩
theorem mul_zer {a b : Nat} (ha : a < 18446744073709551616) (hb : b < 18446744073709551616) (h1 : finB a) (h2 : finB b) (h : zerB a ∨ zerB b) : floatBits .mul .f64 a b = some (Ieee.double.word (xs a b) 0) := by
  rw [mul_fin ha hb h1 h2]
  have e : spM a * spM b = 0 := by rcases h with h | h <;> simp [spM_zero.2 h]
  rw [e, nr_zero]
theorem add_nan' {a b : Nat} (ha : a < 18446744073709551616) (hb : b < 18446744073709551616) (h : nanB a = true ∨ nanB b = true) : floatBits .add .f64 a b = none := add_nan h
theorem refFAdd_any (a b : Nat) (ha : a < 18446744073709551616) (hb : b < 18446744073709551616) (w : World) :
    Calls Tryz.prog 38 #[.int .u64 a, .int .u64 b] w fun e w' => FO .add a b e ∧ Below w.heap.size w w' := by
  by_cases na : nanB a = true
  · exact (fadd_n1 a b w ⟨ha, na⟩).mono fun e w' ⟨h1, h2⟩ => ⟨fo_none (add_nan' ha hb (.inl na)) h1, h2⟩
  replace na : nanB a = false := by simpa using na
  have hNa : NN a false := ⟨ha, na⟩
  by_cases nb : nanB b = true
  · exact (fadd_n2 a b w hNa ⟨hb, nb⟩).mono fun e w' ⟨h1, h2⟩ => ⟨fo_none (add_nan' ha hb (.inr nb)) h1, h2⟩
  replace nb : nanB b = false := by simpa using nb
  have hNb : NN b false := ⟨hb, nb⟩
  by_cases ia : infB a
  · have hIa : II a true := decide_eq_true ia
    by_cases ib : infB b
    · have hIb : II b true := decide_eq_true ib
      cases hg : sg a <;> cases hg2 : sg b
      · exact (fadd_a1f a b w hNa hNb hIa hIb hg hg2).mono fun e w' ⟨h1, h2⟩ => ⟨fo_some (add_inf_l ha hb ia nb fun _ => hg.trans hg2.symm) ha h1, h2⟩
      · exact (fadd_n3f a b w hNa hNb hIa hIb hg hg2).mono fun e w' ⟨h1, h2⟩ => ⟨fo_none (add_inf_ne ha hb ia ib (by rw [hg, hg2]; decide)) h1, h2⟩
      · exact (fadd_n3t a b w hNa hNb hIa hIb hg hg2).mono fun e w' ⟨h1, h2⟩ => ⟨fo_none (add_inf_ne ha hb ia ib (by rw [hg, hg2]; decide)) h1, h2⟩
      · exact (fadd_a1t a b w hNa hNb hIa hIb hg hg2).mono fun e w' ⟨h1, h2⟩ => ⟨fo_some (add_inf_l ha hb ia nb fun _ => hg.trans hg2.symm) ha h1, h2⟩
    · exact (fadd_a2 a b w hNa hNb hIa (decide_eq_false ib)).mono fun e w' ⟨h1, h2⟩ => ⟨fo_some (add_inf_l ha hb ia nb fun h => absurd h ib) ha h1, h2⟩
  have hIa : II a false := decide_eq_false ia
  have fa := fin_of na ia
  by_cases zb : zerB b
  · have hZb : ZZ b true := decide_eq_true zb
    have ib : ¬ infB b := by unfold zerB at zb; unfold infB; omega
    by_cases za : zerB a
    · have hZa : ZZ a true := decide_eq_true za
      have hIb : II b false := decide_eq_false ib
      have hA := add_zz ha hb za zb
      cases hg : sg a <;> cases hg2 : sg b
      · exact (fadd_zff a b w hNa hNb hIa hZb hZa hIb hg hg2).mono fun e w' ⟨h1, h2⟩ => ⟨fo_some (hA.trans (by rw [hg, hg2]; rfl)) (word_lt _ _ (by decide)) h1, h2⟩
      · exact (fadd_zft a b w hNa hNb hIa hZb hZa hIb hg hg2).mono fun e w' ⟨h1, h2⟩ => ⟨fo_some (hA.trans (by rw [hg, hg2]; rfl)) (word_lt _ _ (by decide)) h1, h2⟩
      · exact (fadd_ztf a b w hNa hNb hIa hZb hZa hIb hg hg2).mono fun e w' ⟨h1, h2⟩ => ⟨fo_some (hA.trans (by rw [hg, hg2]; rfl)) (word_lt _ _ (by decide)) h1, h2⟩
      · exact (fadd_ztt a b w hNa hNb hIa hZb hZa hIb hg hg2).mono fun e w' ⟨h1, h2⟩ => ⟨fo_some (hA.trans (by rw [hg, hg2]; rfl)) (word_lt _ _ (by decide)) h1, h2⟩
    · exact (fadd_a3 a b w hNa hNb hIa hZb (decide_eq_false za)).mono fun e w' ⟨h1, h2⟩ => ⟨fo_some (add_zero_r ha hb fa zb za) ha h1, h2⟩
  have hZb : ZZ b false := decide_eq_false zb
  by_cases ib : infB b
  · exact (fadd_b1 a b w hNa hNb hIa hZb (decide_eq_true ib)).mono fun e w' ⟨h1, h2⟩ => ⟨fo_some ((add_comm_bits b a).trans (add_inf_l hb ha ib na fun h => absurd h ia)) hb h1, h2⟩
  have hIb : II b false := decide_eq_false ib
  by_cases za : zerB a
  · exact (fadd_b2 a b w hNa hNb hIa hZb hIb (decide_eq_true za)).mono fun e w' ⟨h1, h2⟩ => ⟨fo_some ((add_comm_bits b a).trans (add_zero_r hb ha (fin_of nb ib) za zb)) hb h1, h2⟩
  exact refFAdd_fin a b ha hb na nb ia ib za zb w

theorem refFMul_any (a b : Nat) (ha : a < 18446744073709551616) (hb : b < 18446744073709551616) (w : World) :
    Calls Tryz.prog 40 #[.int .u64 a, .int .u64 b] w fun e w' => FO .mul a b e ∧ Below w.heap.size w w' := by
  by_cases na : nanB a = true
  · exact (fmul_n1 a b _ _ w rfl rfl ⟨ha, na⟩).mono fun e w' ⟨h1, h2⟩ => ⟨fo_none (mul_none ha hb (.inl na)) h1, h2⟩
  replace na : nanB a = false := by simpa using na
  have hNa : NN a false := ⟨ha, na⟩
  by_cases nb : nanB b = true
  · exact (fmul_n2 a b _ _ w rfl rfl hNa ⟨hb, nb⟩).mono fun e w' ⟨h1, h2⟩ => ⟨fo_none (mul_none ha hb (.inr (.inl nb))) h1, h2⟩
  replace nb : nanB b = false := by simpa using nb
  have hNb : NN b false := ⟨hb, nb⟩
  by_cases ia : infB a
  · have hIa : II a true := decide_eq_true ia
    have za : ¬ zerB a := by unfold infB at ia; unfold zerB; omega
    by_cases zb : zerB b
    · exact (fmul_n3 a b _ _ w rfl rfl hNa hNb hIa (decide_eq_true zb)).mono fun e w' ⟨h1, h2⟩ => ⟨fo_none (mul_none ha hb (.inr (.inr (.inl ⟨ia, zb⟩)))) h1, h2⟩
    · exact (fmul_i1 a b _ _ w rfl rfl hNa hNb hIa (decide_eq_false zb) (decide_eq_false za)).mono fun e w' ⟨h1, h2⟩ => ⟨fo_some (mul_inf ha hb na nb (.inl ia) (fun h => zb h.2) (fun h => za h.1)) (word_lt _ _ (by decide)) h1, h2⟩
  have hIa : II a false := decide_eq_false ia
  by_cases za : zerB a
  · have hZa : ZZ a true := decide_eq_true za
    by_cases ib : infB b
    · exact (fmul_n4 a b _ _ w rfl rfl hNa hNb hIa hZa (decide_eq_true ib)).mono fun e w' ⟨h1, h2⟩ => ⟨fo_none (mul_none ha hb (.inr (.inr (.inr ⟨za, ib⟩)))) h1, h2⟩
    · exact (fmul_z1 a b _ _ w rfl rfl hNa hNb hIa hZa (decide_eq_false ib)).mono fun e w' ⟨h1, h2⟩ => ⟨fo_some (mul_zer ha hb (fin_z za) (fin_of nb ib) (.inl za)) (word_lt _ _ (by decide)) h1, h2⟩
  have hZa : ZZ a false := decide_eq_false za
  by_cases ib : infB b
  · exact (fmul_i2 a b _ _ w rfl rfl hNa hNb hIa hZa (decide_eq_true ib)).mono fun e w' ⟨h1, h2⟩ => ⟨fo_some (mul_inf ha hb na nb (.inr ib) (fun h => ia h.1) (fun h => za h.1)) (word_lt _ _ (by decide)) h1, h2⟩
  have hIb : II b false := decide_eq_false ib
  by_cases zb : zerB b
  · exact (fmul_z2 a b _ _ w rfl rfl hNa hNb hIa hZa hIb (decide_eq_true zb)).mono fun e w' ⟨h1, h2⟩ => ⟨fo_some (mul_zer ha hb (fin_of na ia) (fin_z zb) (.inr zb)) (word_lt _ _ (by decide)) h1, h2⟩
  have hZb : ZZ b false := decide_eq_false zb
  exact (fmul_fin a b _ _ _ _ _ _ _ w rfl rfl hNa hNb hIa hIb hZa hZb ⟨ha, rfl, rfl⟩ ⟨hb, rfl, rfl⟩ (spM_lt a) (spM_lt b) (spM_ne za) (spM_ne zb) (spE_lo a) (spE_hi a ha na) (spE_lo b) (spE_hi b hb nb) rfl).mono fun e w' ⟨h1, h2⟩ => ⟨fo_some (mul_fin ha hb (fin_of na ia) (fin_of nb ib)) (word_lt _ _ (nr_le _ _)) h1, h2⟩
theorem refFDiv_any (a b : Nat) (ha : a < 18446744073709551616) (hb : b < 18446744073709551616) (w : World) :
    Calls Tryz.prog 42 #[.int .u64 a, .int .u64 b] w fun e w' => FO .quo a b e ∧ Below w.heap.size w w' := by
  by_cases na : nanB a = true
  · exact (fdiv_n1 a b _ _ w rfl rfl ⟨ha, na⟩).mono fun e w' ⟨h1, h2⟩ => ⟨fo_none (quo_none ha hb (.inl na)) h1, h2⟩
  replace na : nanB a = false := by simpa using na
  have hNa : NN a false := ⟨ha, na⟩
  by_cases nb : nanB b = true
  · exact (fdiv_n2 a b _ _ w rfl rfl hNa ⟨hb, nb⟩).mono fun e w' ⟨h1, h2⟩ => ⟨fo_none (quo_none ha hb (.inr (.inl nb))) h1, h2⟩
  replace nb : nanB b = false := by simpa using nb
  have hNb : NN b false := ⟨hb, nb⟩
  by_cases ia : infB a
  · have hIa : II a true := decide_eq_true ia
    have za : ¬ zerB a := by unfold infB at ia; unfold zerB; omega
    by_cases ib : infB b
    · exact (fdiv_n3 a b _ _ w rfl rfl hNa hNb hIa (decide_eq_true ib)).mono fun e w' ⟨h1, h2⟩ => ⟨fo_none (quo_none ha hb (.inr (.inr (.inl ⟨ia, ib⟩)))) h1, h2⟩
    · exact (fdiv_i1 a b _ _ w rfl rfl hNa hNb hIa (decide_eq_false ib) (decide_eq_false za)).mono fun e w' ⟨h1, h2⟩ => ⟨fo_some (quo_inf ha hb na nb (.inl ia) (fun h => ib h.2) (fun h => za h.1)) (word_lt _ _ (by decide)) h1, h2⟩
  have hIa : II a false := decide_eq_false ia
  by_cases za : zerB a
  · have hZa : ZZ a true := decide_eq_true za
    by_cases zb : zerB b
    · exact (fdiv_n4 a b _ _ w rfl rfl hNa hNb hIa hZa (decide_eq_true zb)).mono fun e w' ⟨h1, h2⟩ => ⟨fo_none (quo_none ha hb (.inr (.inr (.inr ⟨za, zb⟩)))) h1, h2⟩
    · exact (fdiv_z1 a b _ _ w rfl rfl hNa hNb hIa hZa (decide_eq_false zb)).mono fun e w' ⟨h1, h2⟩ => ⟨fo_some (quo_zero ha hb na nb (.inl za) ia zb) (word_lt _ _ (by decide)) h1, h2⟩
  have hZa : ZZ a false := decide_eq_false za
  by_cases zb : zerB b
  · exact (fdiv_i2 a b _ _ w rfl rfl hNa hNb hIa hZa (decide_eq_true zb)).mono fun e w' ⟨h1, h2⟩ => ⟨fo_some (quo_inf ha hb na nb (.inr zb) (fun h => ia h.1) (fun h => za h.1)) (word_lt _ _ (by decide)) h1, h2⟩
  have hZb : ZZ b false := decide_eq_false zb
  by_cases ib : infB b
  · exact (fdiv_z2 a b _ _ w rfl rfl hNa hNb hIa hZa hZb (decide_eq_true ib)).mono fun e w' ⟨h1, h2⟩ => ⟨fo_some (quo_zero ha hb na nb (.inr ib) ia zb) (word_lt _ _ (by decide)) h1, h2⟩
  have hIb : II b false := decide_eq_false ib
  have hq := quo_fin ha hb (fin_of na ia) (fin_of nb ib) za zb ((spE a - spE b).toNat + k1074) (-(spE a - spE b)).toNat (by rw [k1074_eq]; omega)
  rw [Nat.pow_add, ← Nat.mul_assoc] at hq
  exact (fdiv_fin a b _ _ _ _ _ _ _ w rfl rfl hNa hNb hIa hIb hZa hZb ⟨ha, rfl, rfl⟩ ⟨hb, rfl, rfl⟩ (spM_lt a) (spM_lt b) (spM_ne za) (spM_ne zb) (spE_lo a) (spE_hi a ha na) (spE_lo b) (spE_hi b hb nb) rfl).mono fun e w' ⟨h1, h2⟩ => ⟨fo_some hq (word_lt _ _ (rd_le _ _)) h1, h2⟩

theorem fneg_if (b : Nat) (hb : b < 18446744073709551616) : fnegV b = if 9223372036854775808 ≤ b then b - 9223372036854775808 else b + 9223372036854775808 := by
  have h1 := Nat.xor_mod_two_pow (a := b) (b := 9223372036854775808) (n := 63)
  have h2 := Nat.xor_div_two_pow (a := b) (b := 9223372036854775808) (n := 63)
  rw [show (2 : Nat) ^ 63 = 9223372036854775808 by decide] at h1 h2
  have e1 : (9223372036854775808 : Nat) % 9223372036854775808 = 0 := by decide
  have e2 : (9223372036854775808 : Nat) / 9223372036854775808 = 1 := by decide
  rw [e1, Nat.xor_zero] at h1
  rw [e2] at h2
  unfold fnegV
  by_cases h : 9223372036854775808 ≤ b
  · rw [show b / 9223372036854775808 = 1 by omega, show (1 : Nat) ^^^ 1 = 0 by decide] at h2
    rw [if_pos h]; omega
  · rw [show b / 9223372036854775808 = 0 by omega, show (0 : Nat) ^^^ 1 = 1 by decide] at h2
    rw [if_neg h]; omega
theorem sub_fneg {a b : Nat} (hb : b < 18446744073709551616) : floatBits .sub .f64 a b = floatBits .add .f64 a (fnegV b) := by rw [fneg_if b hb]; exact sub_is_add hb
theorem refFNeg_any (b : Nat) (hb : b < 18446744073709551616) (w : World) : Calls Tryz.prog 39 #[.int .u64 b] w fun e w' => e = .returned (.int .u64 (fnegV b)) ∧ w = w' := by
  rw [fneg_if b hb]
  by_cases h : 9223372036854775808 ≤ b
  · have hG : GG b true := decide_eq_true h
    obtain ⟨r, rfl⟩ : ∃ r, b = r + 9223372036854775808 := ⟨b - 9223372036854775808, by omega⟩
    rw [if_pos h, show r + 9223372036854775808 - 9223372036854775808 = r by omega]
    have e1 : (((r + 9223372036854775808 : Nat) : Int)) - 9223372036854775808 = (r : Int) := by omega
    have HN := Lib.hid (fun w => gg_at _ _ w hG)
    clear h hG
    go_enter Tryz.func39, Tryz.ntmps39
    go_wp2_with (go_at_call 70; refine (HN.out _).mono ?_; rintro e wx ⟨rfl, rfl⟩)
    go_ret
    exact ⟨rfl, rfl⟩
  · have hG : GG b false := decide_eq_false h
    rw [if_neg h]
    have h2 : b < 9223372036854775808 := by omega
    have e1 : (((b + 9223372036854775808 : Nat) : Int)) = (b : Int) + 9223372036854775808 := by omega
    rw [e1]
    clear h e1
    go_enter Tryz.func39, Tryz.ntmps39
    go_wp2_with (go_at_call 70; refine Calls.mono (gg_at _ _ _ (by assumption)) ?_; rintro e wx ⟨rfl, rfl⟩)
    go_ret
    exact ⟨rfl, rfl⟩

theorem refFLess_n1 (a b : Nat) (w : World) (h1 : NN a true) : Calls Tryz.prog 43 #[.int .u64 a, .int .u64 b] w fun e w' => e = .returned (.bool false) ∧ w = w' := by
  go_enter Tryz.func43, Tryz.ntmps43
  go_wp2_with (go_at_call 67; refine Calls.mono (nn_at _ _ _ (by assumption)) ?_; rintro e wx ⟨rfl, rfl⟩)
  go_ret
  exact ⟨rfl, rfl⟩
theorem refFLess_n2 (a b : Nat) (w : World) (h1 : NN a false) (h2 : NN b true) : Calls Tryz.prog 43 #[.int .u64 a, .int .u64 b] w fun e w' => e = .returned (.bool false) ∧ w = w' := by
  go_enter Tryz.func43, Tryz.ntmps43
  go_wp2_with (go_at_call 67; refine Calls.mono (nn_at _ _ _ (by assumption)) ?_; rintro e wx ⟨rfl, rfl⟩)
  go_ret
  exact ⟨rfl, rfl⟩
theorem refFLess_fin (a b : Nat) (p q : Int) (w : World) (h1 : NN a false) (h2 : NN b false) (h3 : PLC a p) (h4 : PLC b q) : Calls Tryz.prog 43 #[.int .u64 a, .int .u64 b] w fun e w' => e = .returned (.bool (decide (p < q))) ∧ w = w' := by
  go_enter Tryz.func43, Tryz.ntmps43
  go_wp2_with (first | (go_at_call 67; refine Calls.mono (nn_at _ _ _ (by assumption)) ?_; rintro e wx ⟨rfl, rfl⟩) | (go_at_call 79; refine Calls.mono (plc_at _ _ _ (by assumption)) ?_; rintro e wx ⟨rfl, rfl⟩))
  go_ret
  exact ⟨by apply ret_bool; first | done | rfl | (rw [Bool.eq_iff_iff]; simp), rfl⟩

theorem refFEqual_n1 (a b : Nat) (w : World) (h1 : NN a true) : Calls Tryz.prog 44 #[.int .u64 a, .int .u64 b] w fun e w' => e = .returned (.bool false) ∧ w = w' := by
  go_enter Tryz.func44, Tryz.ntmps44
  go_wp2_with (go_at_call 67; refine Calls.mono (nn_at _ _ _ (by assumption)) ?_; rintro e wx ⟨rfl, rfl⟩)
  go_ret
  exact ⟨rfl, rfl⟩
theorem refFEqual_n2 (a b : Nat) (w : World) (h1 : NN a false) (h2 : NN b true) : Calls Tryz.prog 44 #[.int .u64 a, .int .u64 b] w fun e w' => e = .returned (.bool false) ∧ w = w' := by
  go_enter Tryz.func44, Tryz.ntmps44
  go_wp2_with (go_at_call 67; refine Calls.mono (nn_at _ _ _ (by assumption)) ?_; rintro e wx ⟨rfl, rfl⟩)
  go_ret
  exact ⟨rfl, rfl⟩
theorem refFEqual_fin (a b : Nat) (p q : Int) (w : World) (h1 : NN a false) (h2 : NN b false) (h3 : PLC a p) (h4 : PLC b q) : Calls Tryz.prog 44 #[.int .u64 a, .int .u64 b] w fun e w' => e = .returned (.bool (decide (p = q))) ∧ w = w' := by
  go_enter Tryz.func44, Tryz.ntmps44
  go_wp2_with (first | (go_at_call 67; refine Calls.mono (nn_at _ _ _ (by assumption)) ?_; rintro e wx ⟨rfl, rfl⟩) | (go_at_call 79; refine Calls.mono (plc_at _ _ _ (by assumption)) ?_; rintro e wx ⟨rfl, rfl⟩))
  go_ret
  exact ⟨by apply ret_bool; first | done | rfl | (rw [Bool.eq_iff_iff]; simp), rfl⟩

theorem cmp_eq0 {a b : Int} : compare a b = .eq ↔ a = b := by
  simp only [compare, compareOfLessAndEq]
  split
  · simp; omega
  · split <;> simp <;> assumption
theorem refFLess_any (a b : Nat) (ha : a < 18446744073709551616) (hb : b < 18446744073709551616) (w : World) : Calls Tryz.prog 43 #[.int .u64 a, .int .u64 b] w fun e w' => e = .returned (.bool (fltB a b)) ∧ w = w' := by
  cases na : nanB a with
  | true =>
    have h1 : fltB a b = false := by unfold fltB; rw [show FloatKind.f64.format = Ieee.double from rfl, order_nan_l na]; try rfl
    rw [h1]; exact refFLess_n1 a b w ⟨ha, na⟩
  | false =>
    cases nb : nanB b with
    | true =>
      have h1 : fltB a b = false := by unfold fltB; rw [show FloatKind.f64.format = Ieee.double from rfl, order_nan_r nb]; try rfl
      rw [h1]; exact refFLess_n2 a b w ⟨ha, na⟩ ⟨hb, nb⟩
    | false =>
      have h1 : fltB a b = decide (pl a < pl b) := by
        unfold fltB
        rw [show FloatKind.f64.format = Ieee.double from rfl, order_pl ha hb na nb, Bool.eq_iff_iff]
        simp only [beq_iff_eq, Option.some.injEq, decide_eq_true_eq]
        exact cmp_lt
      rw [h1]; exact refFLess_fin a b _ _ w ⟨ha, na⟩ ⟨hb, nb⟩ ⟨ha, rfl⟩ ⟨hb, rfl⟩
theorem refFEqual_any (a b : Nat) (ha : a < 18446744073709551616) (hb : b < 18446744073709551616) (w : World) : Calls Tryz.prog 44 #[.int .u64 a, .int .u64 b] w fun e w' => e = .returned (.bool (feqB a b)) ∧ w = w' := by
  cases na : nanB a with
  | true =>
    have h1 : feqB a b = false := by unfold feqB; rw [order_nan_l na]; try rfl
    rw [h1]; exact refFEqual_n1 a b w ⟨ha, na⟩
  | false =>
    cases nb : nanB b with
    | true =>
      have h1 : feqB a b = false := by unfold feqB; rw [order_nan_r nb]; try rfl
      rw [h1]; exact refFEqual_n2 a b w ⟨ha, na⟩ ⟨hb, nb⟩
    | false =>
      have h1 : feqB a b = decide (pl a = pl b) := by
        unfold feqB
        rw [order_pl ha hb na nb, Bool.eq_iff_iff]
        simp only [beq_iff_eq, Option.some.injEq, decide_eq_true_eq]
        exact cmp_eq0
      rw [h1]; exact refFEqual_fin a b _ _ w ⟨ha, na⟩ ⟨hb, nb⟩ ⟨ha, rfl⟩ ⟨hb, rfl⟩
end Go.Proofs.YtoonneminimbfaaGreatDoor
