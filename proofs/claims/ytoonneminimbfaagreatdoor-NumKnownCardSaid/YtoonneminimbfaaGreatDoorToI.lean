/- num.ToInt of any float. -/
import Derived.Test.YtoonneminimbfaaGreatDoorRd
import Derived.Test.YtoonneminimbfaaGreatDoorKeeps0
namespace Go.Proofs.YtoonneminimbfaaGreatDoor
open Go.RowKit
set_option linter.unusedVariables false
set_option linter.unusedSimpArgs false

/-- What stands ahead of the point. -/
def tr (b : Nat) : Nat := spM b * 2 ^ (spE b).toNat / 2 ^ (-spE b).toNat
def toI (b : Nat) : Int := if nanB b = true then 0 else if 9223372036854775808 ≤ b then (if 9223372036854775808 ≤ tr b then -9223372036854775808 else -(tr b : Int)) else (if 9223372036854775808 ≤ tr b then 9223372036854775807 else (tr b : Int))

theorem cut_zero' (neg : Bool) (n d : Nat) : Ieee.Toward.zero.cut neg n d = n / 2 ^ d := by
  rcases Nat.lt_or_ge (n.log2 + 2) d with h | h
  · have h1 := Nat.lt_log2_self (n := n)
    have h2 : 2 ^ (n.log2 + 2) = 2 * 2 ^ (n.log2 + 1) := by rw [Nat.pow_succ 2 (n.log2 + 1)]; omega
    have h3 : 2 ^ (n.log2 + 2) ≤ 2 ^ d := Nat.pow_le_pow_right (by decide) (by omega)
    unfold Ieee.Toward.cut
    simp only [Nat.min_eq_right (Nat.le_of_lt h), Nat.shiftLeft_eq, Nat.one_mul, Bool.toNat_false, Nat.add_zero]
    rw [Nat.div_eq_of_lt (by omega), Nat.div_eq_of_lt (by omega)]
  · exact cut_zero neg n d h

theorem toInt_read (b : Nat) (hb : b < 18446744073709551616) (h : b % 9223372036854775808 < 9218868437227405312) : (Ieee.double.read b).toInt .zero = some (sgn (decide (9223372036854775808 ≤ b)) (tr b)) := by
  rw [read_fin b hb h]
  unfold Ieee.Datum.toInt Ieee.Datum.integral
  simp only [cut_zero', Nat.shiftLeft_eq, signed_eq, Nat.pow_zero, Nat.mul_one]
  rfl

theorem tr_big (b : Nat) : 9223372036854775808 ≤ tr b ↔ 4890909195324358656 ≤ b % 9223372036854775808 := by
  obtain ⟨N, hN⟩ : ∃ N : Nat, N = 1074 := ⟨_, rfl⟩
  have hV : V 4890909195324358656 = 9223372036854775808 * 2 ^ N := by
    have := V_at (N + 11) 4503599627370496 (by omega) (by omega)
    rw [show (N + 11) * 4503599627370496 + 4503599627370496 = 4890909195324358656 by omega] at this
    rw [this, show (9223372036854775808 : Nat) = 2 ^ 63 by decide, show (4503599627370496 : Nat) = 2 ^ 52 by decide, ← Nat.pow_add, ← Nat.pow_add, show 52 + (N + 11) = 63 + N by omega]
  have hle : 4890909195324358656 ≤ b % 9223372036854775808 ↔ V 4890909195324358656 ≤ V (b % 9223372036854775808) := by
    constructor
    · exact V_mono
    · intro h
      rcases Nat.lt_or_ge (b % 9223372036854775808) 4890909195324358656 with h1 | h1
      · have := V_strict h1; omega
      · exact h1
  rw [hle, hV, ← sp_V]
  have hK := spE_k b
  have hM := spM_lt b
  unfold tr
  generalize spM b = m at *
  generalize spE b = e at *
  generalize spK b = K at *
  rcases Nat.lt_or_ge K N with h | h
  · have e1 : e.toNat = 0 := by omega
    rw [e1, Nat.pow_zero, Nat.mul_one]
    constructor
    · intro h1
      have := Nat.div_le_self m (2 ^ (-e).toNat)
      omega
    · intro h1
      exfalso
      have : m * 2 ^ K < 9223372036854775808 * 2 ^ N := by
        have a1 : m * 2 ^ K ≤ m * 2 ^ N := Nat.mul_le_mul_left _ (Nat.pow_le_pow_right (by decide) (by omega))
        have a2 : m * 2 ^ N < 9223372036854775808 * 2 ^ N := Nat.mul_lt_mul_of_pos_right (by omega) (Nat.two_pow_pos _)
        omega
      omega
  · have e1 : (-e).toNat = 0 := by omega
    have e2 : K = e.toNat + N := by omega
    rw [e1, Nat.pow_zero, Nat.div_one, e2, Nat.pow_add, ← Nat.mul_assoc]
    constructor
    · intro h1; exact Nat.mul_le_mul_right _ h1
    · intro h1; exact Nat.le_of_mul_le_mul_right h1 (Nat.two_pow_pos N)

theorem toInt_walk (x : Nat) (n : Bool) (o1 o2 : Ordering) (N : Int) (w : World) (hn : nanB x = n) (hnan : n = true → N = 0)
    (g1 : n = false → FloatKind.f64.format.order x 4890909195324358656 = some o1) (g2 : n = false → FloatKind.f64.format.order x 14114281232179134464 = some o2)
    (h1 : n = false → o1 ≠ .lt → N = 9223372036854775807) (h2 : n = false → o1 = .lt → o2 = .lt → N = -9223372036854775808)
    (h3 : n = false → o1 = .lt → o2 ≠ .lt → ∀ w : World, (convert 27 2 (.float .f64 x)).run Tryz.prog w = .ok (.int .i64 N) w) :
    Calls Tryz.prog 26 #[.float .f64 x] w fun e w' => e = .returned (.int .i64 N) ∧ w = w' := by
  have HN := Lib.hid (isNaN_any x w)
  rw [hn] at HN
  clear hn
  cases n with
  | true =>
    obtain rfl := hnan rfl
    clear g1 g2 h1 h2 h3 hnan
    go_enter Tryz.func26, Tryz.ntmps26
    go_wp2_with (go_at_call 64; refine HN.out.mono ?_; rintro e w' ⟨rfl, rfl⟩)
    go_ret
    exact ⟨rfl, rfl⟩
  | false =>
    have g1 := g1 rfl
    have g2 := g2 rfl
    have h1 := h1 rfl
    have h2 := h2 rfl
    have h3 := h3 rfl
    clear hnan
    cases o1 with
    | lt =>
      clear h1
      cases o2 with
      | lt =>
        obtain rfl := h2 rfl rfl
        clear h2 h3
        go_enter Tryz.func26, Tryz.ntmps26
        go_wp2_with (go_at_call 64; refine HN.out.mono ?_; rintro e w' ⟨rfl, rfl⟩)
        go_ret
        exact ⟨rfl, rfl⟩
      | eq =>
        have g3 := h3 rfl (by decide)
        clear h2 h3
        go_enter Tryz.func26, Tryz.ntmps26
        go_wp2_with (go_at_call 64; refine HN.out.mono ?_; rintro e w' ⟨rfl, rfl⟩)
        go_ret
        exact ⟨rfl, rfl⟩
      | gt =>
        have g3 := h3 rfl (by decide)
        clear h2 h3
        go_enter Tryz.func26, Tryz.ntmps26
        go_wp2_with (go_at_call 64; refine HN.out.mono ?_; rintro e w' ⟨rfl, rfl⟩)
        go_ret
        exact ⟨rfl, rfl⟩
    | eq =>
      obtain rfl := h1 (by decide)
      clear h1 h2 h3
      go_enter Tryz.func26, Tryz.ntmps26
      go_wp2_with (go_at_call 64; refine HN.out.mono ?_; rintro e w' ⟨rfl, rfl⟩)
      go_ret
      exact ⟨rfl, rfl⟩
    | gt =>
      obtain rfl := h1 (by decide)
      clear h1 h2 h3
      go_enter Tryz.func26, Tryz.ntmps26
      go_wp2_with (go_at_call 64; refine HN.out.mono ?_; rintro e w' ⟨rfl, rfl⟩)
      go_ret
      exact ⟨rfl, rfl⟩

theorem cmp_lt {a b : Int} : compare a b = .lt ↔ a < b := by
  simp only [compare, compareOfLessAndEq]
  split
  · simp; assumption
  · split <;> simp <;> omega

theorem toInt_any (b : Nat) (hb : b < 18446744073709551616) (w : World) : Calls Tryz.prog 26 #[.float .f64 b] w fun e w' => e = .returned (.int .i64 (toI b)) ∧ w = w' := by
  refine toInt_walk b (nanB b) (compare (pl b) 4890909195324358656) (compare (pl b) (-4890909195324358656)) (toI b) w rfl (fun h => by unfold toI; rw [if_pos h]) (fun h => ?_) (fun h => ?_) (fun h h1 => ?_) (fun h h1 h2 => ?_) (fun h h1 h2 => ?_)
  · rw [show FloatKind.f64.format = Ieee.double from rfl, order_pl hb (by decide) h (by decide +kernel), show pl 4890909195324358656 = 4890909195324358656 by decide]
  · rw [show FloatKind.f64.format = Ieee.double from rfl, order_pl hb (by decide) h (by decide +kernel), show pl 14114281232179134464 = -4890909195324358656 by decide]
  · have h1' : ¬ pl b < 4890909195324358656 := fun e => h1 (cmp_lt.2 e)
    have hneg : ¬ 9223372036854775808 ≤ b := fun e => by
      unfold pl sgn at h1'; rw [decide_eq_true e, if_pos rfl] at h1'; omega
    have hbig : 9223372036854775808 ≤ tr b := by
      rw [tr_big]
      unfold pl sgn at h1'; rw [decide_eq_false hneg, if_neg (by decide)] at h1'; omega
    unfold toI
    rw [h, if_neg (by decide), if_neg hneg, if_pos hbig]
  · have h2' := cmp_lt.1 h2
    have hneg : 9223372036854775808 ≤ b := by
      rcases Nat.lt_or_ge b 9223372036854775808 with e | e
      · unfold pl sgn at h2'; rw [decide_eq_false (by omega), if_neg (by decide)] at h2'; omega
      · exact e
    have hbig : 9223372036854775808 ≤ tr b := by
      rw [tr_big]
      unfold pl sgn at h2'; rw [decide_eq_true hneg, if_pos rfl] at h2'; omega
    unfold toI
    rw [h, if_neg (by decide), if_pos hneg, if_pos hbig]
  · have h1' := cmp_lt.1 h1
    have h2' : ¬ pl b < -4890909195324358656 := fun e => h2 (cmp_lt.2 e)
    have hr : b % 9223372036854775808 ≤ 4890909195324358656 := by
      unfold pl sgn at h1' h2'
      by_cases e : 9223372036854775808 ≤ b
      · rw [decide_eq_true e, if_pos rfl] at h2'; omega
      · rw [decide_eq_false e, if_neg (by decide)] at h1'; omega
    have hbig := tr_big b
    -- at the very end of the range
    have hend : b % 9223372036854775808 = 4890909195324358656 → tr b = 9223372036854775808 := fun e => by
      unfold tr spM spE
      rw [e]
      have : b % 4503599627370496 = 0 := by omega
      rw [this]
      decide +kernel
    have hN : sgn (decide (9223372036854775808 ≤ b)) (tr b) = toI b ∧ -9223372036854775808 ≤ toI b ∧ toI b ≤ 9223372036854775807 := by
      unfold toI
      rw [h, if_neg (by decide)]
      by_cases e : 9223372036854775808 ≤ b
      · rw [decide_eq_true e, if_pos e, sgn, if_pos rfl]
        by_cases e2 : b % 9223372036854775808 = 4890909195324358656
        · rw [hend e2]; decide
        · rw [if_neg (by omega)]; refine ⟨rfl, by omega, by omega⟩
      · rw [decide_eq_false e, if_neg e, sgn, if_neg (by decide)]
        have : b % 9223372036854775808 < 4890909195324358656 := by
          unfold pl sgn at h1'
          rw [decide_eq_false e, if_neg (by decide)] at h1'; omega
        rw [if_neg (by omega)]; refine ⟨rfl, by omega, by omega⟩
    intro w
    refine run_convert_float_int w 27 2 .f64 .i64 b (toI b) (by kernel_rfl) Tryz.underlying2 ?_
    unfold floatToIntVal FloatKind.decode
    rw [show FloatKind.f64.format = Ieee.double from rfl, toInt_read b hb (by omega), hN.1]
    simp only [IntKind.min, IntKind.max, IntKind.signed, IntKind.bits]
    rw [if_pos (by constructor <;> simp <;> omega)]
end Go.Proofs.YtoonneminimbfaaGreatDoor
