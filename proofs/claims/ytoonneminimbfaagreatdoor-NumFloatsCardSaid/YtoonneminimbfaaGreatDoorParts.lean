/- What emendref01's sums, products and quotients ask of bits. -/
import Derived.Test.YtoonneminimbfaaGreatDoorLessAny
import Derived.Test.YtoonneminimbfaaGreatDoorFin
import Derived.Test.YtoonneminimbfaaGreatDoorTurns2
namespace Go.Proofs.YtoonneminimbfaaGreatDoor
open Go.RowKit
set_option linter.unusedVariables false
set_option linter.unusedSimpArgs false

def NN (b : Nat) (v : Bool) : Prop := b < 18446744073709551616 ∧ nanB b = v
def II (b : Nat) (v : Bool) : Prop := decide (b % 9223372036854775808 = 9218868437227405312) = v
def ZZ (b : Nat) (v : Bool) : Prop := decide (b % 9223372036854775808 = 0) = v
def GG (b : Nat) (v : Bool) : Prop := sg b = v
def SPL (b m : Nat) (i : Int) : Prop := b < 18446744073709551616 ∧ spM b = m ∧ spE b = i
def PLC (b : Nat) (p : Int) : Prop := b < 18446744073709551616 ∧ pl b = p
theorem nn_at (b : Nat) (v : Bool) (w : World) (h : NN b v) : Calls Tryz.prog 67 #[.int .u64 b] w fun e w' => e = .returned (.bool v) ∧ w = w' := by
  obtain ⟨h1, rfl⟩ := h
  exact refNan2 b h1 w
theorem ii_at (b : Nat) (v : Bool) (w : World) (h : II b v) : Calls Tryz.prog 69 #[.int .u64 b] w fun e w' => e = .returned (.bool v) ∧ w = w' := by
  obtain rfl := h
  exact refInf_any b w
theorem zz_at (b : Nat) (v : Bool) (w : World) (h : ZZ b v) : Calls Tryz.prog 73 #[.int .u64 b] w fun e w' => e = .returned (.bool v) ∧ w = w' := by
  obtain rfl := h
  exact refZero_any b w
theorem gg_at (b : Nat) (v : Bool) (w : World) (h : GG b v) : Calls Tryz.prog 70 #[.int .u64 b] w fun e w' => e = .returned (.bool v) ∧ w = w' := by
  obtain rfl := h
  exact refNeg_any b w
theorem spl_at (b m : Nat) (i : Int) (w : World) (h : SPL b m i) : Calls Tryz.prog 68 #[.int .u64 b] w fun e w' => e = .returned (.tuple #[.int .u64 m, .int .i64 i]) ∧ w = w' := by
  obtain ⟨h1, rfl, rfl⟩ := h
  exact split_any b h1 w
theorem plc_at (b : Nat) (p : Int) (w : World) (h : PLC b p) : Calls Tryz.prog 79 #[.int .u64 b] w fun e w' => e = .returned (.int .i64 p) ∧ w = w' := by
  obtain ⟨h1, rfl⟩ := h
  exact place_any b h1 w
theorem signed_word (s : Bool) (f : Nat) (hf : f < 9223372036854775808) (w : World) : Calls Tryz.prog 74 #[.bool s, .int .u64 f] w fun e w' => e = .returned (.int .u64 (Ieee.double.word s f : Nat)) ∧ w = w' := by
  cases s with
  | true =>
    rw [word_t]
    have := signed_true f hf w
    rwa [show ((f + 9223372036854775808 : Nat) : Int) = (f : Int) + 9223372036854775808 by omega] at this
  | false =>
    rw [word_f]
    exact signed_false f w
theorem signed_zero (s : Bool) (w : World) : Calls Tryz.prog 74 #[.bool s, .int .u64 0] w fun e w' => e = .returned (.int .u64 (Ieee.double.word s 0 : Nat)) ∧ w = w' := signed_word s 0 (by decide) w
theorem signed_top (s : Bool) (w : World) : Calls Tryz.prog 74 #[.bool s, .int .u64 9218868437227405312] w fun e w' => e = .returned (.int .u64 (Ieee.double.word s 9218868437227405312 : Nat)) ∧ w = w' := signed_word s 9218868437227405312 (by decide) w

theorem word_lt (s : Bool) (r : Nat) (h : r ≤ 9218868437227405312) : Ieee.double.word s r < 18446744073709551616 := by
  cases s with
  | true => have := word_t r; omega
  | false => have := word_f r; omega
theorem nr_le (m : Nat) (e : Int) : nr m e ≤ 9218868437227405312 := rd_le _ _
theorem nr_sc (S : Nat) (low : Int) : rd (S * 2 ^ low.toNat * 2 ^ k1074) (1 * 2 ^ (-low).toNat) = nr S low := by
  rw [nr_eq S low (low.toNat + k1074) (-low).toNat (by rw [k1074_eq]; omega), Nat.one_mul, Nat.mul_assoc, ← Nat.pow_add]
theorem len53 (m : Nat) (h : m < 9007199254740992) : (dg16 m).length ≤ 4 := dg16_len 4 m (by rw [show (65536 : Nat) ^ 4 = 18446744073709551616 by decide]; omega)
theorem len_one : (dg16 1).length ≤ 1 := dg16_len 1 1 (by decide)
theorem len_sum (x y L : Nat) (hx : (dg16 x).length ≤ L) (hy : (dg16 y).length ≤ L) : (dg16 (x + y)).length ≤ L + 1 := by
  rcases Nat.le_total x y with h | h
  · have h1 := len_up y 1 L hy
    have h2 := len_le (show x + y ≤ y * 2 ^ 1 by omega)
    omega
  · have h1 := len_up x 1 L hx
    have h2 := len_le (show x + y ≤ x * 2 ^ 1 by omega)
    omega

/-- A call hands back what a float's reckoning makes. -/
def FO (op : BinOp) (a b : Nat) (e : Ending) : Prop := ∃ v : Nat, e = .returned (.int .u64 v) ∧ v < 18446744073709551616 ∧ OutF (floatBits op .f64 a b) v
theorem fo_some {op : BinOp} {a b v : Nat} {e : Ending} (h : floatBits op .f64 a b = some v) (hv : v < 18446744073709551616) (he : e = .returned (.int .u64 v)) : FO op a b e := ⟨v, he, hv, by rw [h]; rfl⟩
theorem fo_none {op : BinOp} {a b : Nat} {e : Ending} (h : floatBits op .f64 a b = none) (he : e = .returned (.int .u64 9221120237041090561)) : FO op a b e := ⟨9221120237041090561, he, by decide, by rw [h]; rfl⟩
end Go.Proofs.YtoonneminimbfaaGreatDoor
