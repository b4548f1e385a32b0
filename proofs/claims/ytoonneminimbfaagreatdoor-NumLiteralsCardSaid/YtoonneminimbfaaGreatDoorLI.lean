/- Whole numbers as floats, and back. num.ToInt of any float. emendref01.ToFloat, ToInt. -/
import Derived.Test.YtoonneminimbfaaGreatDoorLG
import Derived.Test.YtoonneminimbfaaGreatDoorLH
namespace Go.Proofs.YtoonneminimbfaaGreatDoor
section
open Go.RowKit
set_option linter.unusedVariables false
set_option linter.unusedSimpArgs false

/-- A whole number's float. -/
def tf (a : Int) : Nat := Ieee.double.word (decide (a < 0)) (rungI a.natAbs)
theorem floatOfInt_tf (a : Int) (h0 : -9223372036854775808 ≤ a) (h1 : a ≤ 9223372036854775807) : floatOfInt .f64 a = tf a := by
  show Ieee.double.nearest (decide (a < 0)) a.natAbs 0 = _
  rw [nearest_int _ _ (by omega)]; rfl
theorem rung_small (m : Nat) (h : m ≤ 9223372036854775808) : rungI m ≤ 4890909195324358656 := by
  have h1 := rung_mono h
  have : rungI 9223372036854775808 = 4890909195324358656 := by decide +kernel
  omega
theorem tf_lt (a : Int) (h0 : -9223372036854775808 ≤ a) (h1 : a ≤ 9223372036854775807) : tf a < 18446744073709551616 := by
  have := rung_small a.natAbs (by omega)
  unfold tf Ieee.Format.word; rw [signW]; split <;> omega
def R (a : Int) : Int := sgn (decide (a < 0)) (rungI a.natAbs)
theorem pl_tf (a : Int) (h0 : -9223372036854775808 ≤ a) (h1 : a ≤ 9223372036854775807) : pl (tf a) = R a := by
  have hr := rung_small a.natAbs (by omega)
  unfold tf Ieee.Format.word pl R
  rw [signW]
  by_cases h : a < 0
  · rw [decide_eq_true h, if_pos rfl, decide_eq_true (by omega : 9223372036854775808 ≤ 9223372036854775808 + rungI a.natAbs)]
    congr 1; omega
  · rw [decide_eq_false h, if_neg (by decide), decide_eq_false (by omega : ¬ 9223372036854775808 ≤ rungI a.natAbs)]
    congr 1; omega
theorem tf_num (a : Int) (h0 : -9223372036854775808 ≤ a) (h1 : a ≤ 9223372036854775807) : nanB (tf a) = false := by
  have hr := rung_small a.natAbs (by omega)
  rw [nanB_is]
  unfold tf Ieee.Format.word
  rw [signW]
  apply decide_eq_false
  split <;> omega
theorem R_mono {a b : Int} (h : a ≤ b) : R a ≤ R b := by
  unfold R sgn
  by_cases ha : a < 0
  · by_cases hb : b < 0
    · have := rung_mono (by omega : b.natAbs ≤ a.natAbs)
      simp [ha, hb] <;> omega
    · simp [ha, hb] <;> omega
  · have := rung_mono (by omega : a.natAbs ≤ b.natAbs)
    have hb : ¬ b < 0 := by omega
    simp [ha, hb] <;> omega
theorem R_strict {a b : Int} (h : a < b) (h0 : -9007199254740992 ≤ a) (h1 : a < 9007199254740992) : R a < R b := by
  have h2 : R (a + 1) ≤ R b := R_mono (by omega)
  have h3 : R a < R (a + 1) := by
    unfold R sgn
    by_cases ha : a < 0
    · have h4 := rung_strict (by omega : (a + 1).natAbs < a.natAbs) (by omega)
      by_cases hb : a + 1 < 0
      · simp [ha, hb] <;> omega
      · have : a = -1 := by omega
        subst this; simp [ha]; decide +kernel
    · have h4 := rung_strict (by omega : a.natAbs < (a + 1).natAbs) (by omega)
      have hb : ¬ a + 1 < 0 := by omega
      simp [ha, hb] <;> omega
  omega
theorem flt_tf (a b : Int) (h0 : -9223372036854775808 ≤ a) (h1 : a ≤ 9223372036854775807) (h2 : -9223372036854775808 ≤ b) (h3 : b ≤ 9223372036854775807) : fltB (tf a) (tf b) = decide (R a < R b) := by
  unfold fltB
  rw [show FloatKind.f64.format = Ieee.double from rfl, order_pl (tf_lt a h0 h1) (tf_lt b h2 h3) (tf_num a h0 h1) (tf_num b h2 h3), pl_tf a h0 h1, pl_tf b h2 h3]
  simp only [compare, compareOfLessAndEq]
  split
  · rename_i h; rw [decide_eq_true h]; rfl
  · rename_i h; rw [decide_eq_false h]; split <;> rfl

/-! ### Back -/
theorem cut_zero (neg : Bool) (n d : Nat) (h : d ≤ n.log2 + 2) : Ieee.Toward.zero.cut neg n d = n / 2 ^ d := by
  unfold Ieee.Toward.cut
  simp only [Nat.min_eq_left h, Nat.shiftLeft_eq, Nat.one_mul, Bool.toNat_false, Nat.add_zero]
theorem read_word (neg : Bool) (r : Nat) (h1 : 4503599627370496 ≤ r) (h2 : r < 9218868437227405312) : Ieee.double.read (Ieee.double.word neg r) = .number neg (4503599627370496 + r % 4503599627370496) ((r / 4503599627370496 : Nat) - 1075) := by
  have e : Ieee.double.word neg r % 9223372036854775808 = r := by unfold Ieee.Format.word; rw [signW]; split <;> omega
  have s : (Ieee.double.word neg r / 9223372036854775808 % 2 == 1) = neg := by
    unfold Ieee.Format.word; rw [signW]
    cases neg
    · simp; omega
    · simp; omega
  unfold Ieee.Format.read
  simp only [signW, binade_, infR, least, e, s]
  rw [if_neg (by omega), if_pos h2]
  congr 1
  omega
theorem toInt_tf (a : Int) (h0 : -9007199254740992 ≤ a) (h1 : a ≤ 9007199254740992) : (Ieee.double.read (tf a)).toInt .zero = some a := by
  by_cases hz : a = 0
  · subst hz; decide +kernel
  have hm : a.natAbs ≠ 0 := by omega
  by_cases h53 : a.natAbs = 9007199254740992
  · rcases Int.natAbs_eq a with h | h
    · rw [h53] at h; subst h; decide +kernel
    · rw [h53] at h; subst h; decide +kernel
  have hL : a.natAbs.log2 ≤ 52 := by
    have : a.natAbs.log2 < 53 := by rw [Nat.log2_lt hm]; omega
    omega
  have hb := rung_bounds a.natAbs hm
  have l1 := Nat.log2_self_le hm
  have l2 := Nat.lt_log2_self (n := a.natAbs)
  unfold tf
  rw [read_word _ _ (by omega) (by omega)]
  have hr : rungI a.natAbs = (a.natAbs.log2 + 1022) * 4503599627370496 + a.natAbs * 2 ^ (52 - a.natAbs.log2) := by unfold rungI; rw [if_neg hm, if_pos hL]
  have hs : decide (a < 0) = true → a = -(a.natAbs : Int) := by intro h; have := of_decide_eq_true h; omega
  have hs2 : decide (a < 0) = false → a = (a.natAbs : Int) := by intro h; have := of_decide_eq_false h; omega
  generalize decide (a < 0) = s at *
  generalize a.natAbs = m at *
  generalize hLe : m.log2 = L at *
  have e : 2 ^ L * 2 ^ (52 - L) = 4503599627370496 := by rw [← Nat.pow_add, show L + (52 - L) = 52 by omega]
  have e1 : 2 ^ L * 2 ^ (52 - L) ≤ m * 2 ^ (52 - L) := Nat.mul_le_mul_right _ l1
  have e2 : m * 2 ^ (52 - L) < 2 ^ (L + 1) * 2 ^ (52 - L) := Nat.mul_lt_mul_of_pos_right l2 (Nat.two_pow_pos _)
  rw [Nat.pow_succ, Nat.mul_right_comm, e] at e2
  rw [e] at e1
  have hq : rungI m / 4503599627370496 = L + 1023 := by rw [hr]; omega
  have hmo : 4503599627370496 + rungI m % 4503599627370496 = m * 2 ^ (52 - L) := by rw [hr]; omega
  rw [hq, hmo]
  unfold Ieee.Datum.toInt Ieee.Datum.integral
  simp only
  have t1 : (((L + 1023 : Nat) : Int) - 1075).toNat = 0 := by omega
  have t2 : (-(((L + 1023 : Nat) : Int) - 1075)).toNat = 52 - L := by omega
  rw [t1, t2, Nat.shiftLeft_zero]
  have hlog : 52 - L ≤ (m * 2 ^ (52 - L)).log2 + 2 := by
    have : 52 ≤ (m * 2 ^ (52 - L)).log2 := by
      rw [Nat.le_log2 (by omega)]
      exact e1
    omega
  rw [cut_zero _ _ _ hlog, Nat.mul_div_cancel _ (Nat.two_pow_pos _), signed_eq, Nat.pow_zero, Nat.mul_one]
  unfold sgn
  cases s
  · rw [hs2 rfl]; simp
  · rw [hs rfl]; simp

theorem toFloat_any (a : Int) (h0 : -9223372036854775808 ≤ a) (h1 : a ≤ 9223372036854775807) (w : World) : Calls Tryz.prog 24 #[.int .i64 a] w fun e w' => e = .returned (.float .f64 (tf a)) ∧ w = w' := by
  rw [← floatOfInt_tf a h0 h1]
  go_enter Tryz.func24, Tryz.ntmps24
  go_wp2_with fail
  go_ret
  exact ⟨rfl, rfl⟩

theorem toInt_small (a : Int) (h0 : -9007199254740992 ≤ a) (h1 : a ≤ 9007199254740992) (w : World) : Calls Tryz.prog 26 #[.float .f64 (tf a)] w fun e w' => e = .returned (.int .i64 a) ∧ w = w' := by
  have hn := tf_num a (by omega) (by omega)
  have HN := Lib.hid (isNaN_any (tf a) w)
  rw [hn] at HN
  have hl := tf_lt a (by omega) (by omega)
  have hp := pl_tf a (by omega) (by omega)
  have b1 : R a ≤ 4845873199050653696 := by have := R_mono h1; have e : R 9007199254740992 = 4845873199050653696 := by decide +kernel
                                            omega
  have b2 : -4845873199050653696 ≤ R a := by have := R_mono h0; have e : R (-9007199254740992) = -4845873199050653696 := by decide +kernel
                                             omega
  have o1 : Ieee.double.order (tf a) 4890909195324358656 = some .lt := by
    rw [order_pl hl (by decide) hn (by decide +kernel), hp, show pl 4890909195324358656 = 4890909195324358656 by decide]
    simp only [compare, compareOfLessAndEq]; rw [if_pos (by omega)]
  have o2 : Ieee.double.order (tf a) 14114281232179134464 = some .gt := by
    rw [order_pl hl (by decide) hn (by decide +kernel), hp, show pl 14114281232179134464 = -4890909195324358656 by decide]
    simp only [compare, compareOfLessAndEq]; rw [if_neg (by omega), if_neg (by omega)]
  have g1 : FloatKind.f64.format.order (tf a) 4890909195324358656 = some .lt := o1
  have g2 : FloatKind.f64.format.order (tf a) 14114281232179134464 = some .gt := o2
  have g3 : ∀ w : World, (convert 27 2 (.float .f64 (tf a))).run Tryz.prog w = .ok (.int .i64 a) w := fun w =>
    run_convert_float_int w 27 2 .f64 .i64 (tf a) a (by kernel_rfl) Tryz.underlying2 (by
      unfold floatToIntVal FloatKind.decode
      rw [show FloatKind.f64.format = Ieee.double from rfl, toInt_tf a h0 h1]
      simp only [IntKind.min, IntKind.max, IntKind.signed, IntKind.bits]
      rw [if_pos (by constructor <;> simp <;> omega)])
  clear hn hl hp b1 b2 o1 o2
  generalize tf a = x at *
  go_enter Tryz.func26, Tryz.ntmps26
  go_wp2_with (go_at_call 64; refine HN.out.mono ?_; rintro e w' ⟨rfl, rfl⟩)
  go_ret
  exact ⟨rfl, rfl⟩
end

section
open Go.RowKit
set_option linter.unusedVariables false
set_option linter.unusedSimpArgs false

/-- What stands ahead of the point. -/
def tr (b : Nat) : Nat := spM b * 2 ^ (spE b).toNat / 2 ^ (-spE b).toNat
def toI (b : Nat) : Int := if nanB b = true then 0 else if 9223372036854775808 ≤ b then (if 9223372036854775808 ≤ tr b then -9223372036854775808 else -(tr b : Int)) else (if 9223372036854775808 ≤ tr b then 9223372036854775807 else (tr b : Int))

theorem cut_zero' (neg : Bool) (n d : Nat) : Ieee.Toward.zero.cut neg n d = n / 2 ^ d := by
  rcases Nat.lt_or_ge (n.log2 + 2) d with h | h
  · have h1 := Nat.lt_log2_self (n := n)
    have h2 : 2 ^ (n.log2 + 2) = 2 * 2 ^ (n.log2 + 1) := by rw [Nat.pow_succ 2 (n.log2 + 1)]; omega
    have h3 : 2 ^ (n.log2 + 2) ≤ 2 ^ d := Nat.pow_le_pow_right (by decide) (by omega)
    unfold Ieee.Toward.cut
    simp only [Nat.min_eq_right (Nat.le_of_lt h), Nat.shiftLeft_eq, Nat.one_mul, Bool.toNat_false, Nat.add_zero]
    rw [Nat.div_eq_of_lt (by omega), Nat.div_eq_of_lt (by omega)]
  · exact cut_zero neg n d h

theorem toInt_read (b : Nat) (hb : b < 18446744073709551616) (h : b % 9223372036854775808 < 9218868437227405312) : (Ieee.double.read b).toInt .zero = some (sgn (decide (9223372036854775808 ≤ b)) (tr b)) := by
  rw [read_fin b hb h]
  unfold Ieee.Datum.toInt Ieee.Datum.integral
  simp only [cut_zero', Nat.shiftLeft_eq, signed_eq, Nat.pow_zero, Nat.mul_one]
  rfl

theorem tr_big (b : Nat) : 9223372036854775808 ≤ tr b ↔ 4890909195324358656 ≤ b % 9223372036854775808 := by
  obtain ⟨N, hN⟩ : ∃ N : Nat, N = 1074 := ⟨_, rfl⟩
  have hV : V 4890909195324358656 = 9223372036854775808 * 2 ^ N := by
    have := V_at (N + 11) 4503599627370496 (by omega) (by omega)
    rw [show (N + 11) * 4503599627370496 + 4503599627370496 = 4890909195324358656 by omega] at this
    rw [this, show (9223372036854775808 : Nat) = 2 ^ 63 by decide, show (4503599627370496 : Nat) = 2 ^ 52 by decide, ← Nat.pow_add, ← Nat.pow_add, show 52 + (N + 11) = 63 + N by omega]
  have hle : 4890909195324358656 ≤ b % 9223372036854775808 ↔ V 4890909195324358656 ≤ V (b % 9223372036854775808) := by
    constructor
    · exact V_mono
    · intro h
      rcases Nat.lt_or_ge (b % 9223372036854775808) 4890909195324358656 with h1 | h1
      · have := V_strict h1; omega
      · exact h1
  rw [hle, hV, ← sp_V]
  have hK := spE_k b
  have hM := spM_lt b
  unfold tr
  generalize spM b = m at *
  generalize spE b = e at *
  generalize spK b = K at *
  rcases Nat.lt_or_ge K N with h | h
  · have e1 : e.toNat = 0 := by omega
    rw [e1, Nat.pow_zero, Nat.mul_one]
    constructor
    · intro h1
      have := Nat.div_le_self m (2 ^ (-e).toNat)
      omega
    · intro h1
      exfalso
      have : m * 2 ^ K < 9223372036854775808 * 2 ^ N := by
        have a1 : m * 2 ^ K ≤ m * 2 ^ N := Nat.mul_le_mul_left _ (Nat.pow_le_pow_right (by decide) (by omega))
        have a2 : m * 2 ^ N < 9223372036854775808 * 2 ^ N := Nat.mul_lt_mul_of_pos_right (by omega) (Nat.two_pow_pos _)
        omega
      omega
  · have e1 : (-e).toNat = 0 := by omega
    have e2 : K = e.toNat + N := by omega
    rw [e1, Nat.pow_zero, Nat.div_one, e2, Nat.pow_add, ← Nat.mul_assoc]
    constructor
    · intro h1; exact Nat.mul_le_mul_right _ h1
    · intro h1; exact Nat.le_of_mul_le_mul_right h1 (Nat.two_pow_pos N)

theorem toInt_walk (x : Nat) (n : Bool) (o1 o2 : Ordering) (N : Int) (w : World) (hn : nanB x = n) (hnan : n = true → N = 0)
    (g1 : n = false → FloatKind.f64.format.order x 4890909195324358656 = some o1) (g2 : n = false → FloatKind.f64.format.order x 14114281232179134464 = some o2)
    (h1 : n = false → o1 ≠ .lt → N = 9223372036854775807) (h2 : n = false → o1 = .lt → o2 = .lt → N = -9223372036854775808)
    (h3 : n = false → o1 = .lt → o2 ≠ .lt → ∀ w : World, (convert 27 2 (.float .f64 x)).run Tryz.prog w = .ok (.int .i64 N) w) :
    Calls Tryz.prog 26 #[.float .f64 x] w fun e w' => e = .returned (.int .i64 N) ∧ w = w' := by
  have HN := Lib.hid (isNaN_any x w)
  rw [hn] at HN
  clear hn
  cases n with
  | true =>
    obtain rfl := hnan rfl
    clear g1 g2 h1 h2 h3 hnan
    go_enter Tryz.func26, Tryz.ntmps26
    go_wp2_with (go_at_call 64; refine HN.out.mono ?_; rintro e w' ⟨rfl, rfl⟩)
    go_ret
    exact ⟨rfl, rfl⟩
  | false =>
    have g1 := g1 rfl
    have g2 := g2 rfl
    have h1 := h1 rfl
    have h2 := h2 rfl
    have h3 := h3 rfl
    clear hnan
    cases o1 with
    | lt =>
      clear h1
      cases o2 with
      | lt =>
        obtain rfl := h2 rfl rfl
        clear h2 h3
        go_enter Tryz.func26, Tryz.ntmps26
        go_wp2_with (go_at_call 64; refine HN.out.mono ?_; rintro e w' ⟨rfl, rfl⟩)
        go_ret
        exact ⟨rfl, rfl⟩
      | eq =>
        have g3 := h3 rfl (by decide)
        clear h2 h3
        go_enter Tryz.func26, Tryz.ntmps26
        go_wp2_with (go_at_call 64; refine HN.out.mono ?_; rintro e w' ⟨rfl, rfl⟩)
        go_ret
        exact ⟨rfl, rfl⟩
      | gt =>
        have g3 := h3 rfl (by decide)
        clear h2 h3
        go_enter Tryz.func26, Tryz.ntmps26
        go_wp2_with (go_at_call 64; refine HN.out.mono ?_; rintro e w' ⟨rfl, rfl⟩)
        go_ret
        exact ⟨rfl, rfl⟩
    | eq =>
      obtain rfl := h1 (by decide)
      clear h1 h2 h3
      go_enter Tryz.func26, Tryz.ntmps26
      go_wp2_with (go_at_call 64; refine HN.out.mono ?_; rintro e w' ⟨rfl, rfl⟩)
      go_ret
      exact ⟨rfl, rfl⟩
    | gt =>
      obtain rfl := h1 (by decide)
      clear h1 h2 h3
      go_enter Tryz.func26, Tryz.ntmps26
      go_wp2_with (go_at_call 64; refine HN.out.mono ?_; rintro e w' ⟨rfl, rfl⟩)
      go_ret
      exact ⟨rfl, rfl⟩

theorem cmp_lt {a b : Int} : compare a b = .lt ↔ a < b := by
  simp only [compare, compareOfLessAndEq]
  split
  · simp; assumption
  · split <;> simp <;> omega

theorem toInt_any (b : Nat) (hb : b < 18446744073709551616) (w : World) : Calls Tryz.prog 26 #[.float .f64 b] w fun e w' => e = .returned (.int .i64 (toI b)) ∧ w = w' := by
  refine toInt_walk b (nanB b) (compare (pl b) 4890909195324358656) (compare (pl b) (-4890909195324358656)) (toI b) w rfl (fun h => by unfold toI; rw [if_pos h]) (fun h => ?_) (fun h => ?_) (fun h h1 => ?_) (fun h h1 h2 => ?_) (fun h h1 h2 => ?_)
  · rw [show FloatKind.f64.format = Ieee.double from rfl, order_pl hb (by decide) h (by decide +kernel), show pl 4890909195324358656 = 4890909195324358656 by decide]
  · rw [show FloatKind.f64.format = Ieee.double from rfl, order_pl hb (by decide) h (by decide +kernel), show pl 14114281232179134464 = -4890909195324358656 by decide]
  · have h1' : ¬ pl b < 4890909195324358656 := fun e => h1 (cmp_lt.2 e)
    have hneg : ¬ 9223372036854775808 ≤ b := fun e => by
      unfold pl sgn at h1'; rw [decide_eq_true e, if_pos rfl] at h1'; omega
    have hbig : 9223372036854775808 ≤ tr b := by
      rw [tr_big]
      unfold pl sgn at h1'; rw [decide_eq_false hneg, if_neg (by decide)] at h1'; omega
    unfold toI
    rw [h, if_neg (by decide), if_neg hneg, if_pos hbig]
  · have h2' := cmp_lt.1 h2
    have hneg : 9223372036854775808 ≤ b := by
      rcases Nat.lt_or_ge b 9223372036854775808 with e | e
      · unfold pl sgn at h2'; rw [decide_eq_false (by omega), if_neg (by decide)] at h2'; omega
      · exact e
    have hbig : 9223372036854775808 ≤ tr b := by
      rw [tr_big]
      unfold pl sgn at h2'; rw [decide_eq_true hneg, if_pos rfl] at h2'; omega
    unfold toI
    rw [h, if_neg (by decide), if_pos hneg, if_pos hbig]
  · have h1' := cmp_lt.1 h1
    have h2' : ¬ pl b < -4890909195324358656 := fun e => h2 (cmp_lt.2 e)
    have hr : b % 9223372036854775808 ≤ 4890909195324358656 := by
      unfold pl sgn at h1' h2'
      by_cases e : 9223372036854775808 ≤ b
      · rw [decide_eq_true e, if_pos rfl] at h2'; omega
      · rw [decide_eq_false e, if_neg (by decide)] at h1'; omega
    have hbig := tr_big b
    -- at the very end of the range
    have hend : b % 9223372036854775808 = 4890909195324358656 → tr b = 9223372036854775808 := fun e => by
      unfold tr spM spE
      rw [e]
      have : b % 4503599627370496 = 0 := by omega
      rw [this]
      decide +kernel
    have hN : sgn (decide (9223372036854775808 ≤ b)) (tr b) = toI b ∧ -9223372036854775808 ≤ toI b ∧ toI b ≤ 9223372036854775807 := by
      unfold toI
      rw [h, if_neg (by decide)]
      by_cases e : 9223372036854775808 ≤ b
      · rw [decide_eq_true e, if_pos e, sgn, if_pos rfl]
        by_cases e2 : b % 9223372036854775808 = 4890909195324358656
        · rw [hend e2]; decide
        · rw [if_neg (by omega)]; refine ⟨rfl, by omega, by omega⟩
      · rw [decide_eq_false e, if_neg e, sgn, if_neg (by decide)]
        have : b % 9223372036854775808 < 4890909195324358656 := by
          unfold pl sgn at h1'
          rw [decide_eq_false e, if_neg (by decide)] at h1'; omega
        rw [if_neg (by omega)]; refine ⟨rfl, by omega, by omega⟩
    intro w
    refine run_convert_float_int w 27 2 .f64 .i64 b (toI b) (by kernel_rfl) Tryz.underlying2 ?_
    unfold floatToIntVal FloatKind.decode
    rw [show FloatKind.f64.format = Ieee.double from rfl, toInt_read b hb (by omega), hN.1]
    simp only [IntKind.min, IntKind.max, IntKind.signed, IntKind.bits]
    rw [if_pos (by constructor <;> simp <;> omega)]
end

section
open Go.RowKit
set_option linter.unusedVariables false
set_option linter.unusedSimpArgs false

theorem nr_int (m : Nat) (hm : m < 18446744073709551616) : nr m 0 = rungI m := by
  have h1 := nearest_nr false m 0
  rw [nearest_int false m hm] at h1
  have : ∀ r, Ieee.double.word false r = r := fun r => by unfold Ieee.Format.word; rw [if_neg (by decide)]
  rw [this, this] at h1
  exact h1.symm
theorem rd_k (m : Nat) : rd (m * 2 ^ k1074) 1 = nr m 0 := by
  rw [nr_eq m 0 k1074 0 (by rw [k1074_eq]; rfl)]
  first | done | rfl
theorem of_one (w : World) : Calls Tryz.prog 59 #[.int .u64 1] w fun e w' => RetBig 1 e w' ∧ Below w.heap.size w w' := of_big 1 (by decide) w

theorem refToFloat_zero (w : World) : Calls Tryz.prog 27 #[.int .i64 0] w fun e w' => e = .returned (.int .u64 (tf 0 : Nat)) ∧ Below w.heap.size w w' := by
  go_enter Tryz.func27, Tryz.ntmps27
  go_wp2_with fail
  go_ret
  exact ⟨by rw [show tf 0 = 0 by decide +kernel]; rfl, Below.refl _ _⟩
set_option maxRecDepth 100000 in
set_option maxHeartbeats 3200000 in
theorem refToFloat_core (s : Bool) (a : Int) (n : Nat) (w : World) (h1 : SZ a n) (ha : a ≠ 0) (hn : n < 18446744073709551616) (hn0 : n ≠ 0) (da : decide (a < 0) = s) :
    Calls Tryz.prog 27 #[.int .i64 a] w fun e w' => e = .returned (.int .u64 (Ieee.double.word s (rungI n) : Nat)) ∧ Below w.heap.size w w' := by
  have HS := Lib.hid (size_sz a n w h1)
  have hlen : (dg16 n).length ≤ 4 := dg16_len 4 n (by simpa using hn)
  have hlen1 : (dg16 1).length ≤ 4 := dg16_len 4 1 (by decide)
  have HO := Lib.hid (of_big n hn w)
  have HR := Lib.hid (show rd (n * 2 ^ k1074) 1 = rungI n by rw [rd_k, nr_int n hn])
  have ha1 : (a == 0) = false := by simpa using ha
  have HL := Lib.hid hlen
  have HL1 := Lib.hid hlen1
  have HN0 := Lib.hid hn0
  clear hlen hlen1 h1 hn0
  go_enter Tryz.func27, Tryz.ntmps27
  go_wp2_with (first | (go_at_call 63; refine HS.out.mono ?_; rintro e w' ⟨rfl, rfl⟩))
  refine HO.out.mono ?_
  rintro e w1 ⟨⟨A1, c1, rfl, _, r1⟩, hb1⟩
  have HO1 := Lib.hid (of_one w1)
  have HB1 := Lib.hid hb1
  have HR1 := Lib.hid r1
  clear hb1 r1
  go_wp2_with fail
  refine HO1.out.mono ?_
  rintro e w2 ⟨⟨A2, c2, rfl, _, r2⟩, hb2⟩
  have HRO := round_any s n 1 A1 A2 c1 c2 w2 HN0.out (by decide) (by have := HL.out; omega) (by have := HL1.out; omega) (HR1.out.after (Nat.le_refl _) hb2) r2
  rw [HR.out] at HRO
  replace HRO := Lib.hid HRO
  have HB2 := Lib.hid (below_then HB1.out hb2)
  clear hb2 r2
  go_wp2_with fail
  refine HRO.out.mono ?_
  rintro e w3 ⟨rfl, hb3⟩
  have HB3 := Lib.hid (below_then HB2.out hb3)
  clear hb3
  go_wp2_with fail
  go_ret
  exact ⟨rfl, HB3.out⟩
theorem refToFloat_any (a : Int) (h0 : -9223372036854775808 ≤ a) (h1 : a ≤ 9223372036854775807) (w : World) : Calls Tryz.prog 27 #[.int .i64 a] w fun e w' => e = .returned (.int .u64 (tf a : Nat)) ∧ Below w.heap.size w w' := by
  by_cases h : a = 0
  · subst h; exact refToFloat_zero w
  · exact refToFloat_core (decide (a < 0)) a a.natAbs w ⟨⟨h0, h1⟩, rfl⟩ h (by omega) (by omega) rfl
end
end Go.Proofs.YtoonneminimbfaaGreatDoor
