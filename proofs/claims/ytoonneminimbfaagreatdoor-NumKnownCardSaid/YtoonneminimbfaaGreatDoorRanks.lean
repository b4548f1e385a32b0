/- Words of a float in order: by their rungs and signs. -/
import Derived.Test.YtoonneminimbfaaGreatDoorRung
namespace Go.Proofs.YtoonneminimbfaaGreatDoor
set_option linter.unusedVariables false
set_option linter.unusedSimpArgs false

/-- What a rung is worth, in units of the least place. -/
def V (r : Nat) : Nat := if r < 4503599627370496 then r else (4503599627370496 + r % 4503599627370496) * 2 ^ (r / 4503599627370496 - 1)
theorem V_bounds {r : Nat} (h : 4503599627370496 ≤ r) : 4503599627370496 * 2 ^ (r / 4503599627370496 - 1) ≤ V r ∧ V r < 4503599627370496 * 2 ^ (r / 4503599627370496) := by
  unfold V
  rw [if_neg (by omega)]
  have hm : r % 4503599627370496 < 4503599627370496 := Nat.mod_lt _ (by decide)
  have hq : r / 4503599627370496 = (r / 4503599627370496 - 1) + 1 := by omega
  generalize r % 4503599627370496 = m at *
  generalize r / 4503599627370496 - 1 = q at *
  rw [hq, Nat.pow_succ]
  have hp := Nat.two_pow_pos q
  refine ⟨Nat.mul_le_mul_right _ (by omega), ?_⟩
  rw [show 4503599627370496 * (2 ^ q * 2) = 9007199254740992 * 2 ^ q by omega]
  exact Nat.mul_lt_mul_of_pos_right (by omega) hp
theorem V_strict {a b : Nat} (h : a < b) : V a < V b := by
  by_cases ha : a < 4503599627370496
  · by_cases hb : b < 4503599627370496
    · unfold V; rw [if_pos ha, if_pos hb]; exact h
    · have h1 := (V_bounds (by omega : 4503599627370496 ≤ b)).1
      have hp := Nat.two_pow_pos (b / 4503599627370496 - 1)
      have : V a = a := by unfold V; rw [if_pos ha]
      have : 4503599627370496 * 1 ≤ 4503599627370496 * 2 ^ (b / 4503599627370496 - 1) := Nat.mul_le_mul_left _ hp
      omega
  · have h1 := (V_bounds (by omega : 4503599627370496 ≤ a)).2
    have h2 := (V_bounds (by omega : 4503599627370496 ≤ b)).1
    rcases Nat.lt_or_ge (a / 4503599627370496) (b / 4503599627370496) with hlt | hge
    · have : 2 ^ (a / 4503599627370496) ≤ 2 ^ (b / 4503599627370496 - 1) := Nat.pow_le_pow_right (by decide) (by omega)
      have := Nat.mul_le_mul_left 4503599627370496 this
      omega
    · have he : a / 4503599627370496 = b / 4503599627370496 := by omega
      unfold V
      rw [if_neg ha, if_neg (by omega), he]
      exact Nat.mul_lt_mul_of_pos_right (by omega) (Nat.two_pow_pos _)
theorem V_zero : V 0 = 0 := by decide
theorem V_inj {a b : Nat} (h : V a = V b) : a = b := by
  rcases Nat.lt_trichotomy a b with h1 | h1 | h1
  · have := V_strict h1; omega
  · exact h1
  · have := V_strict h1; omega
theorem V_lt {a b : Nat} : V a < V b ↔ a < b := by
  constructor
  · intro h
    rcases Nat.lt_trichotomy a b with h1 | h1 | h1
    · exact h1
    · subst h1; omega
    · have := V_strict h1; omega
  · exact V_strict

def sgn (s : Bool) (n : Nat) : Int := if s then -(n : Int) else n
/-- The place of a word among all. -/
def pl (b : Nat) : Int := sgn (decide (9223372036854775808 ≤ b)) (b % 9223372036854775808)

theorem cmp_eq {x y x' y' : Int} (hlt : x < y ↔ x' < y') (heq : x = y ↔ x' = y') : compare x y = compare x' y' := by
  simp only [compare, compareOfLessAndEq, hlt, heq]
theorem cmp_sgn (s t : Bool) (a b : Nat) : compare (sgn s (V a)) (sgn t (V b)) = compare (sgn s a) (sgn t b) := by
  have h1 := @V_lt a b
  have h2 := @V_lt b a
  have h3 : V a = V b ↔ a = b := ⟨V_inj, fun h => by rw [h]⟩
  have h4 : V a = 0 ↔ a = 0 := ⟨fun h => V_inj (by rw [h, V_zero]), fun h => by rw [h, V_zero]⟩
  have h5 : V b = 0 ↔ b = 0 := ⟨fun h => V_inj (by rw [h, V_zero]), fun h => by rw [h, V_zero]⟩
  generalize V a = A at *
  generalize V b = B at *
  apply cmp_eq
  · cases s <;> cases t <;> simp only [sgn, if_true, if_false, Bool.false_eq_true] <;> omega
  · cases s <;> cases t <;> simp only [sgn, if_true, if_false, Bool.false_eq_true] <;> omega

theorem signed_eq (s : Bool) (m k : Nat) : Ieee.signed s m k = sgn s (m * 2 ^ k) := by
  unfold Ieee.signed sgn
  rw [Nat.shiftLeft_eq]
theorem sgn_mul (s : Bool) (n c : Nat) : sgn s (n * c) = sgn s n * c := by
  cases s <;> simp [sgn, Int.neg_mul]

theorem read_cases {b : Nat} (hb : b < 18446744073709551616) (hn : nanB b = false) :
    (b % 9223372036854775808 < 9218868437227405312 ∧ ∃ m p : Nat, Ieee.double.read b = .number (decide (9223372036854775808 ≤ b)) m ((p : Int) - 1074) ∧ m * 2 ^ p = V (b % 9223372036854775808)) ∨
    (b % 9223372036854775808 = 9218868437227405312 ∧ Ieee.double.read b = .infinity (decide (9223372036854775808 ≤ b))) := by
  have hn' : ¬ b % 9223372036854775808 > 9218868437227405312 := by rw [nanB_is] at hn; simpa using hn
  have hs : (b / 9223372036854775808 % 2 == 1) = decide (9223372036854775808 ≤ b) := by
    by_cases h : 9223372036854775808 ≤ b
    · rw [decide_eq_true h]; simp; omega
    · rw [decide_eq_false h]; simp; omega
  unfold Ieee.Format.read
  simp only [signW, binade_, infR, hs, least]
  generalize hr : b % 9223372036854775808 = r at *
  by_cases h1 : r < 4503599627370496
  · left
    refine ⟨by omega, r, 0, ?_, ?_⟩
    · rw [if_pos h1]; first | done | rfl
    · unfold V; rw [if_pos h1]; simp
  · by_cases h2 : r < 9218868437227405312
    · left
      refine ⟨h2, 4503599627370496 + r % 4503599627370496, r / 4503599627370496 - 1, ?_, ?_⟩
      · rw [if_neg h1, if_pos h2]; congr 1; try omega
      · unfold V; rw [if_neg h1]
    · right
      have h3 : r = 9218868437227405312 := by omega
      refine ⟨h3, ?_⟩
      rw [if_neg h1, if_neg h2, if_pos h3]

theorem order_pl {a b : Nat} (ha : a < 18446744073709551616) (hb : b < 18446744073709551616) (na : nanB a = false) (nb : nanB b = false) :
    Ieee.double.order a b = some (compare (pl a) (pl b)) := by
  unfold Ieee.Format.order pl
  rcases read_cases ha na with ⟨h1, m, p, e1, v1⟩ | ⟨h1, e1⟩ <;> rcases read_cases hb nb with ⟨h2, n, q, e2, v2⟩ | ⟨h2, e2⟩
  · rw [e1, e2]
    simp only [Ieee.Datum.order]
    rw [← cmp_sgn, ← v1, ← v2, signed_eq, signed_eq]
    congr 1
    obtain ⟨c, hc⟩ : ∃ c : Nat, min p q = c := ⟨_, rfl⟩
    have hbase : min ((p : Int) - 1074) ((q : Int) - 1074) = (c : Int) - 1074 := by omega
    have hp : (((p : Int) - 1074) - ((c : Int) - 1074)).toNat = p - c := by omega
    have hq : (((q : Int) - 1074) - ((c : Int) - 1074)).toNat = q - c := by omega
    rw [hbase, hp, hq]
    have hpc : m * 2 ^ p = m * 2 ^ (p - c) * 2 ^ c := by rw [Nat.mul_assoc, ← Nat.pow_add, show p - c + c = p by omega]
    have hqc : n * 2 ^ q = n * 2 ^ (q - c) * 2 ^ c := by rw [Nat.mul_assoc, ← Nat.pow_add, show q - c + c = q by omega]
    rw [hpc, hqc, sgn_mul _ (m * 2 ^ (p - c)) (2 ^ c), sgn_mul _ (n * 2 ^ (q - c)) (2 ^ c)]
    have hpos : (0 : Int) < ((2 ^ c : Nat) : Int) := by have := Nat.two_pow_pos c; omega
    apply cmp_eq
    · exact (Int.mul_lt_mul_right hpos).symm
    · exact ⟨fun h => by rw [h], fun h => Int.eq_of_mul_eq_mul_right (by omega) h⟩
  · rw [e1, e2]
    simp only [Ieee.Datum.order]
    congr 1
    rw [h2]
    generalize b = B
    cases decide (9223372036854775808 ≤ a) <;> cases decide (9223372036854775808 ≤ B) <;> simp only [sgn, if_true, if_false, Bool.false_eq_true] <;> simp only [compare, compareOfLessAndEq] <;> (repeat' split) <;> first | rfl | omega
  · rw [e1, e2]
    simp only [Ieee.Datum.order]
    congr 1
    rw [h1]
    cases decide (9223372036854775808 ≤ a) <;> cases decide (9223372036854775808 ≤ b) <;> simp only [sgn, if_true, if_false, Bool.false_eq_true] <;> simp only [compare, compareOfLessAndEq] <;> (repeat' split) <;> first | rfl | omega
  · rw [e1, e2, h1, h2]
    cases decide (9223372036854775808 ≤ a) <;> cases decide (9223372036854775808 ≤ b) <;> decide
end Go.Proofs.YtoonneminimbfaaGreatDoor
