/- Whole numbers as floats, and back. -/
import Derived.Test.YtoonneminimbfaaGreatDoorRanks
namespace Go.Proofs.YtoonneminimbfaaGreatDoor
open Go.RowKit
set_option linter.unusedVariables false
set_option linter.unusedSimpArgs false

/-- A whole number's float. -/
def tf (a : Int) : Nat := Ieee.double.word (decide (a < 0)) (rungI a.natAbs)
theorem floatOfInt_tf (a : Int) (h0 : -9223372036854775808 ≤ a) (h1 : a ≤ 9223372036854775807) : floatOfInt .f64 a = tf a := by
  show Ieee.double.nearest (decide (a < 0)) a.natAbs 0 = _
  rw [nearest_int _ _ (by omega)]; rfl
theorem rung_small (m : Nat) (h : m ≤ 9223372036854775808) : rungI m ≤ 4890909195324358656 := by
  have h1 := rung_mono h
  have : rungI 9223372036854775808 = 4890909195324358656 := by decide +kernel
  omega
theorem tf_lt (a : Int) (h0 : -9223372036854775808 ≤ a) (h1 : a ≤ 9223372036854775807) : tf a < 18446744073709551616 := by
  have := rung_small a.natAbs (by omega)
  unfold tf Ieee.Format.word; rw [signW]; split <;> omega
def R (a : Int) : Int := sgn (decide (a < 0)) (rungI a.natAbs)
theorem pl_tf (a : Int) (h0 : -9223372036854775808 ≤ a) (h1 : a ≤ 9223372036854775807) : pl (tf a) = R a := by
  have hr := rung_small a.natAbs (by omega)
  unfold tf Ieee.Format.word pl R
  rw [signW]
  by_cases h : a < 0
  · rw [decide_eq_true h, if_pos rfl, decide_eq_true (by omega : 9223372036854775808 ≤ 9223372036854775808 + rungI a.natAbs)]
    congr 1; omega
  · rw [decide_eq_false h, if_neg (by decide), decide_eq_false (by omega : ¬ 9223372036854775808 ≤ rungI a.natAbs)]
    congr 1; omega
theorem tf_num (a : Int) (h0 : -9223372036854775808 ≤ a) (h1 : a ≤ 9223372036854775807) : nanB (tf a) = false := by
  have hr := rung_small a.natAbs (by omega)
  rw [nanB_is]
  unfold tf Ieee.Format.word
  rw [signW]
  apply decide_eq_false
  split <;> omega
theorem R_mono {a b : Int} (h : a ≤ b) : R a ≤ R b := by
  unfold R sgn
  by_cases ha : a < 0
  · by_cases hb : b < 0
    · have := rung_mono (by omega : b.natAbs ≤ a.natAbs)
      simp [ha, hb] <;> omega
    · simp [ha, hb] <;> omega
  · have := rung_mono (by omega : a.natAbs ≤ b.natAbs)
    have hb : ¬ b < 0 := by omega
    simp [ha, hb] <;> omega
theorem R_strict {a b : Int} (h : a < b) (h0 : -9007199254740992 ≤ a) (h1 : a < 9007199254740992) : R a < R b := by
  have h2 : R (a + 1) ≤ R b := R_mono (by omega)
  have h3 : R a < R (a + 1) := by
    unfold R sgn
    by_cases ha : a < 0
    · have h4 := rung_strict (by omega : (a + 1).natAbs < a.natAbs) (by omega)
      by_cases hb : a + 1 < 0
      · simp [ha, hb] <;> omega
      · have : a = -1 := by omega
        subst this; simp [ha]; decide +kernel
    · have h4 := rung_strict (by omega : a.natAbs < (a + 1).natAbs) (by omega)
      have hb : ¬ a + 1 < 0 := by omega
      simp [ha, hb] <;> omega
  omega
theorem flt_tf (a b : Int) (h0 : -9223372036854775808 ≤ a) (h1 : a ≤ 9223372036854775807) (h2 : -9223372036854775808 ≤ b) (h3 : b ≤ 9223372036854775807) : fltB (tf a) (tf b) = decide (R a < R b) := by
  unfold fltB
  rw [show FloatKind.f64.format = Ieee.double from rfl, order_pl (tf_lt a h0 h1) (tf_lt b h2 h3) (tf_num a h0 h1) (tf_num b h2 h3), pl_tf a h0 h1, pl_tf b h2 h3]
  simp only [compare, compareOfLessAndEq]
  split
  · rename_i h; rw [decide_eq_true h]; rfl
  · rename_i h; rw [decide_eq_false h]; split <;> rfl

/-! ### Back -/
theorem cut_zero (neg : Bool) (n d : Nat) (h : d ≤ n.log2 + 2) : Ieee.Toward.zero.cut neg n d = n / 2 ^ d := by
  unfold Ieee.Toward.cut
  simp only [Nat.min_eq_left h, Nat.shiftLeft_eq, Nat.one_mul, Bool.toNat_false, Nat.add_zero]
theorem read_word (neg : Bool) (r : Nat) (h1 : 4503599627370496 ≤ r) (h2 : r < 9218868437227405312) : Ieee.double.read (Ieee.double.word neg r) = .number neg (4503599627370496 + r % 4503599627370496) ((r / 4503599627370496 : Nat) - 1075) := by
  have e : Ieee.double.word neg r % 9223372036854775808 = r := by unfold Ieee.Format.word; rw [signW]; split <;> omega
  have s : (Ieee.double.word neg r / 9223372036854775808 % 2 == 1) = neg := by
    unfold Ieee.Format.word; rw [signW]
    cases neg
    · simp; omega
    · simp; omega
  unfold Ieee.Format.read
  simp only [signW, binade_, infR, least, e, s]
  rw [if_neg (by omega), if_pos h2]
  congr 1
  omega
theorem toInt_tf (a : Int) (h0 : -9007199254740992 ≤ a) (h1 : a ≤ 9007199254740992) : (Ieee.double.read (tf a)).toInt .zero = some a := by
  by_cases hz : a = 0
  · subst hz; decide +kernel
  have hm : a.natAbs ≠ 0 := by omega
  by_cases h53 : a.natAbs = 9007199254740992
  · rcases Int.natAbs_eq a with h | h
    · rw [h53] at h; subst h; decide +kernel
    · rw [h53] at h; subst h; decide +kernel
  have hL : a.natAbs.log2 ≤ 52 := by
    have : a.natAbs.log2 < 53 := by rw [Nat.log2_lt hm]; omega
    omega
  have hb := rung_bounds a.natAbs hm
  have l1 := Nat.log2_self_le hm
  have l2 := Nat.lt_log2_self (n := a.natAbs)
  unfold tf
  rw [read_word _ _ (by omega) (by omega)]
  have hr : rungI a.natAbs = (a.natAbs.log2 + 1022) * 4503599627370496 + a.natAbs * 2 ^ (52 - a.natAbs.log2) := by unfold rungI; rw [if_neg hm, if_pos hL]
  have hs : decide (a < 0) = true → a = -(a.natAbs : Int) := by intro h; have := of_decide_eq_true h; omega
  have hs2 : decide (a < 0) = false → a = (a.natAbs : Int) := by intro h; have := of_decide_eq_false h; omega
  generalize decide (a < 0) = s at *
  generalize a.natAbs = m at *
  generalize hLe : m.log2 = L at *
  have e : 2 ^ L * 2 ^ (52 - L) = 4503599627370496 := by rw [← Nat.pow_add, show L + (52 - L) = 52 by omega]
  have e1 : 2 ^ L * 2 ^ (52 - L) ≤ m * 2 ^ (52 - L) := Nat.mul_le_mul_right _ l1
  have e2 : m * 2 ^ (52 - L) < 2 ^ (L + 1) * 2 ^ (52 - L) := Nat.mul_lt_mul_of_pos_right l2 (Nat.two_pow_pos _)
  rw [Nat.pow_succ, Nat.mul_right_comm, e] at e2
  rw [e] at e1
  have hq : rungI m / 4503599627370496 = L + 1023 := by rw [hr]; omega
  have hmo : 4503599627370496 + rungI m % 4503599627370496 = m * 2 ^ (52 - L) := by rw [hr]; omega
  rw [hq, hmo]
  unfold Ieee.Datum.toInt Ieee.Datum.integral
  simp only
  have t1 : (((L + 1023 : Nat) : Int) - 1075).toNat = 0 := by omega
  have t2 : (-(((L + 1023 : Nat) : Int) - 1075)).toNat = 52 - L := by omega
  rw [t1, t2, Nat.shiftLeft_zero]
  have hlog : 52 - L ≤ (m * 2 ^ (52 - L)).log2 + 2 := by
    have : 52 ≤ (m * 2 ^ (52 - L)).log2 := by
      rw [Nat.le_log2 (by omega)]
      exact e1
    omega
  rw [cut_zero _ _ _ hlog, Nat.mul_div_cancel _ (Nat.two_pow_pos _), signed_eq, Nat.pow_zero, Nat.mul_one]
  unfold sgn
  cases s
  · rw [hs2 rfl]; simp
  · rw [hs rfl]; simp

theorem toFloat_any (a : Int) (h0 : -9223372036854775808 ≤ a) (h1 : a ≤ 9223372036854775807) (w : World) : Calls Tryz.prog 24 #[.int .i64 a] w fun e w' => e = .returned (.float .f64 (tf a)) ∧ w = w' := by
  rw [← floatOfInt_tf a h0 h1]
  go_enter Tryz.func24, Tryz.ntmps24
  go_wp2_with fail
  go_ret
  exact ⟨rfl, rfl⟩

theorem toInt_small (a : Int) (h0 : -9007199254740992 ≤ a) (h1 : a ≤ 9007199254740992) (w : World) : Calls Tryz.prog 26 #[.float .f64 (tf a)] w fun e w' => e = .returned (.int .i64 a) ∧ w = w' := by
  have hn := tf_num a (by omega) (by omega)
  have HN := Lib.hid (isNaN_any (tf a) w)
  rw [hn] at HN
  have hl := tf_lt a (by omega) (by omega)
  have hp := pl_tf a (by omega) (by omega)
  have b1 : R a ≤ 4845873199050653696 := by have := R_mono h1; have e : R 9007199254740992 = 4845873199050653696 := by decide +kernel
                                            omega
  have b2 : -4845873199050653696 ≤ R a := by have := R_mono h0; have e : R (-9007199254740992) = -4845873199050653696 := by decide +kernel
                                             omega
  have o1 : Ieee.double.order (tf a) 4890909195324358656 = some .lt := by
    rw [order_pl hl (by decide) hn (by decide +kernel), hp, show pl 4890909195324358656 = 4890909195324358656 by decide]
    simp only [compare, compareOfLessAndEq]; rw [if_pos (by omega)]
  have o2 : Ieee.double.order (tf a) 14114281232179134464 = some .gt := by
    rw [order_pl hl (by decide) hn (by decide +kernel), hp, show pl 14114281232179134464 = -4890909195324358656 by decide]
    simp only [compare, compareOfLessAndEq]; rw [if_neg (by omega), if_neg (by omega)]
  have g1 : FloatKind.f64.format.order (tf a) 4890909195324358656 = some .lt := o1
  have g2 : FloatKind.f64.format.order (tf a) 14114281232179134464 = some .gt := o2
  have g3 : ∀ w : World, (convert 27 2 (.float .f64 (tf a))).run Tryz.prog w = .ok (.int .i64 a) w := fun w =>
    run_convert_float_int w 27 2 .f64 .i64 (tf a) a (by kernel_rfl) Tryz.underlying2 (by
      unfold floatToIntVal FloatKind.decode
      rw [show FloatKind.f64.format = Ieee.double from rfl, toInt_tf a h0 h1]
      simp only [IntKind.min, IntKind.max, IntKind.signed, IntKind.bits]
      rw [if_pos (by constructor <;> simp <;> omega)])
  clear hn hl hp b1 b2 o1 o2
  generalize tf a = x at *
  go_enter Tryz.func26, Tryz.ntmps26
  go_wp2_with (go_at_call 64; refine HN.out.mono ?_; rintro e w' ⟨rfl, rfl⟩)
  go_ret
  exact ⟨rfl, rfl⟩
end Go.Proofs.YtoonneminimbfaaGreatDoor
