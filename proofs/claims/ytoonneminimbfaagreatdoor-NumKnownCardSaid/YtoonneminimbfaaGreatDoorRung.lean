/- Whole numbers as words of a float: the rung, and that it goes up with the number. -/
import Derived.Test.YtoonneminimbfaaGreatDoorFloatOps
namespace Go.Proofs.YtoonneminimbfaaGreatDoor
set_option linter.unusedVariables false
set_option linter.unusedSimpArgs false

def moreV (n gap : Nat) : Nat := (decide (gap < 2 * (n % gap)) || (gap == 2 * (n % gap) && n / gap % 2 == 1)).toNat
/-- To the nearest, ties to even. -/
def rndV (n d : Nat) : Nat := n / 2 ^ d + moreV n (2 ^ d)
theorem more_le (n g : Nat) : moreV n g ≤ 1 := by unfold moreV; cases (decide (g < 2 * (n % g)) || (g == 2 * (n % g) && n / g % 2 == 1)) <;> simp
theorem cut_even (neg : Bool) (n d : Nat) (h : d ≤ n.log2 + 2) : Ieee.Toward.even.cut neg n d = rndV n d := by
  unfold Ieee.Toward.cut rndV moreV
  simp only [Nat.min_eq_left h, Nat.shiftLeft_eq, Nat.one_mul]
theorem rnd_zero (n : Nat) : rndV n 0 = n := by
  unfold rndV moreV; simp [Nat.mod_one]

def rungI (m : Nat) : Nat := if m = 0 then 0 else if m.log2 ≤ 52 then (m.log2 + 1022) * 4503599627370496 + m * 2 ^ (52 - m.log2) else (m.log2 + 1022) * 4503599627370496 + rndV m (m.log2 - 52)

theorem least : Ieee.double.leastPlace = -1074 := by decide
theorem fracB : Ieee.double.fractionBits = 52 := rfl
theorem binade_ : Ieee.double.binade = 4503599627370496 := by decide
theorem infR : Ieee.double.infRung = 9218868437227405312 := by decide
theorem signW : Ieee.double.signWeight = 9223372036854775808 := by decide

theorem rnd_le (n d : Nat) : n / 2 ^ d ≤ rndV n d ∧ rndV n d ≤ n / 2 ^ d + 1 := by
  have := more_le n (2 ^ d); unfold rndV; omega

theorem pow_cut {L d : Nat} (h : d ≤ L) : 2 ^ L / 2 ^ d = 2 ^ (L - d) := Nat.pow_div h (by decide)

theorem rung_bounds (m : Nat) (hm : m ≠ 0) : (m.log2 + 1023) * 4503599627370496 ≤ rungI m ∧ rungI m ≤ (m.log2 + 1024) * 4503599627370496 := by
  have h1 := Nat.log2_self_le hm
  have h2 := Nat.lt_log2_self (n := m)
  unfold rungI
  rw [if_neg hm]
  generalize m.log2 = L at *
  split
  · rename_i hL
    have e : 2 ^ L * 2 ^ (52 - L) = 4503599627370496 := by rw [← Nat.pow_add, show L + (52 - L) = 52 by omega]
    have e1 : 2 ^ L * 2 ^ (52 - L) ≤ m * 2 ^ (52 - L) := Nat.mul_le_mul_right _ h1
    have e2 : m * 2 ^ (52 - L) ≤ 2 ^ (L + 1) * 2 ^ (52 - L) := Nat.mul_le_mul_right _ (by omega)
    rw [Nat.pow_succ, Nat.mul_right_comm, e] at e2
    rw [e] at e1
    omega
  · rename_i hL
    have ⟨r1, r2⟩ := rnd_le m (L - 52)
    have e1 : 2 ^ L / 2 ^ (L - 52) ≤ m / 2 ^ (L - 52) := Nat.div_le_div_right h1
    have e2 : m / 2 ^ (L - 52) < 9007199254740992 := by
      rw [Nat.div_lt_iff_lt_mul (Nat.two_pow_pos _)]
      have : 9007199254740992 * 2 ^ (L - 52) = 2 ^ (L + 1) := by rw [show (9007199254740992 : Nat) = 2 ^ 53 by decide, ← Nat.pow_add, show 53 + (L - 52) = L + 1 by omega]
      omega
    rw [pow_cut (by omega), show L - (L - 52) = 52 by omega] at e1
    omega

theorem nearest_int (neg : Bool) (m : Nat) (hm : m < 18446744073709551616) : Ieee.double.nearest neg m 0 = Ieee.double.word neg (rungI m) := by
  unfold Ieee.Format.nearest
  by_cases h0 : m = 0
  · subst h0; simp [rungI]
  · rw [if_neg h0]
    have hb := rung_bounds m h0
    have h1 := Nat.log2_self_le h0
    have hlog : m.log2 < 64 := by rw [Nat.log2_lt h0]; exact hm
    simp only [least, fracB, binade_, infR]
    congr 1
    unfold rungI at hb ⊢
    rw [if_neg h0] at hb ⊢
    have hmax : max ((0 : Int) + (m.log2 : Int) - ((52 : Nat) : Int)) (-1074) = (m.log2 : Int) - 52 := by
      rw [Int.max_eq_left (by omega)]; omega
    rw [hmax]
    have e1 : ((m.log2 : Int) - 52 - -1074).toNat = m.log2 + 1022 := by omega
    rw [e1]
    have e2 : ((0 : Int) - ((m.log2 : Int) - 52)).toNat = 52 - m.log2 := by omega
    have e3 : ((m.log2 : Int) - 52 - 0).toNat = m.log2 - 52 := by omega
    rw [e2, e3]
    split at hb
    · rename_i hL
      rw [if_pos hL, show m.log2 - 52 = 0 by omega, cut_even _ _ _ (Nat.zero_le _), rnd_zero, Nat.shiftLeft_eq]
      rw [Nat.min_eq_left]; omega
    · rename_i hL
      rw [if_neg hL, show 52 - m.log2 = 0 by omega, Nat.shiftLeft_zero, cut_even _ _ _ (by omega)]
      rw [Nat.min_eq_left]; omega

theorem rnd_mono {n k d : Nat} (h : n ≤ k) : rndV n d ≤ rndV k d := by
  have hd : n / 2 ^ d ≤ k / 2 ^ d := Nat.div_le_div_right h
  rcases Nat.lt_or_ge (n / 2 ^ d) (k / 2 ^ d) with hlt | hge
  · have h1 := rnd_le n d; have h2 := rnd_le k d; omega
  · have he : n / 2 ^ d = k / 2 ^ d := by omega
    have hm : n % 2 ^ d ≤ k % 2 ^ d := by
      have a1 := Nat.div_add_mod n (2 ^ d); have a2 := Nat.div_add_mod k (2 ^ d)
      rw [he] at a1; omega
    unfold rndV moreV
    rw [he]
    by_cases hc : 2 ^ d < 2 * (k % 2 ^ d)
    · rw [decide_eq_true hc]
      simp only [Bool.true_or, Bool.toNat_true]
      have := Bool.toNat_le (decide (2 ^ d < 2 * (n % 2 ^ d)) || (2 ^ d == 2 * (n % 2 ^ d) && k / 2 ^ d % 2 == 1))
      omega
    · have hc2 : ¬ 2 ^ d < 2 * (n % 2 ^ d) := by omega
      rw [decide_eq_false hc, decide_eq_false hc2]
      by_cases hq : 2 ^ d = 2 * (n % 2 ^ d)
      · have hq2 : 2 ^ d = 2 * (k % 2 ^ d) := by omega
        rw [← hq, ← hq2]; exact Nat.le_refl _
      · have : (2 ^ d == 2 * (n % 2 ^ d)) = false := by simpa using hq
        rw [this]; simp

theorem log2_mono {a b : Nat} (ha : a ≠ 0) (h : a ≤ b) : a.log2 ≤ b.log2 := by
  rw [Nat.le_log2 (by omega)]
  exact Nat.le_trans (Nat.log2_self_le ha) h
theorem rung_mono {a b : Nat} (h : a ≤ b) : rungI a ≤ rungI b := by
  by_cases ha : a = 0
  · subst ha; simp [rungI]
  · have hb : b ≠ 0 := by omega
    have hl := log2_mono ha h
    rcases Nat.lt_or_ge a.log2 b.log2 with hlt | hge
    · have h1 := rung_bounds a ha; have h2 := rung_bounds b hb
      have : (a.log2 + 1024) * 4503599627370496 ≤ (b.log2 + 1023) * 4503599627370496 := Nat.mul_le_mul_right _ (by omega)
      omega
    · have he : a.log2 = b.log2 := by omega
      unfold rungI
      rw [if_neg ha, if_neg hb, he]
      split
      · have := Nat.mul_le_mul_right (2 ^ (52 - b.log2)) h; omega
      · have := rnd_mono (d := b.log2 - 52) h; omega
theorem rung_pos {m : Nat} (h : m ≠ 0) : 0 < rungI m := by have := rung_bounds m h; omega
/-- Up to 2^53 different numbers have different rungs. -/
theorem rung_strict {a b : Nat} (h : a < b) (hb53 : b ≤ 9007199254740992) : rungI a < rungI b := by
  have hb : b ≠ 0 := by omega
  by_cases ha : a = 0
  · subst ha; have := rung_pos hb; simpa [rungI] using this
  · have hl := log2_mono ha (Nat.le_of_lt h)
    have hLa : a.log2 ≤ 52 := by
      have : a.log2 < 53 := by rw [Nat.log2_lt ha]; omega
      omega
    have h2 := rung_bounds b hb
    have a2 := Nat.lt_log2_self (n := a)
    have hra : rungI a < (a.log2 + 1024) * 4503599627370496 := by
      unfold rungI
      rw [if_neg ha, if_pos hLa]
      have e : 2 ^ (a.log2 + 1) * 2 ^ (52 - a.log2) = 9007199254740992 := by rw [← Nat.pow_add, show a.log2 + 1 + (52 - a.log2) = 53 by omega]
      have e2 : a * 2 ^ (52 - a.log2) < 2 ^ (a.log2 + 1) * 2 ^ (52 - a.log2) := Nat.mul_lt_mul_of_pos_right a2 (Nat.two_pow_pos _)
      omega
    rcases Nat.lt_or_ge a.log2 b.log2 with hlt | hge
    · have : (a.log2 + 1024) * 4503599627370496 ≤ (b.log2 + 1023) * 4503599627370496 := Nat.mul_le_mul_right _ (by omega)
      omega
    · have he : a.log2 = b.log2 := by omega
      unfold rungI
      rw [if_neg ha, if_neg hb, ← he, if_pos hLa, if_pos hLa]
      have := Nat.mul_lt_mul_of_pos_right h (Nat.two_pow_pos (52 - a.log2))
      omega
end Go.Proofs.YtoonneminimbfaaGreatDoor
