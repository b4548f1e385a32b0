/- Rounding as a function of a fraction; the model's operations by it. -/
import Derived.Test.YtoonneminimbfaaGreatDoorNear
import Derived.Test.YtoonneminimbfaaGreatDoorSplit
namespace Go.Proofs.YtoonneminimbfaaGreatDoor
set_option linter.unusedVariables false
set_option linter.unusedSimpArgs false

def rdD (p q : Nat) : Nat := if p / q < 9007199254740992 then 0 else (p / q).log2 - 52
/-- The rung of p by q (in units of the least place). -/
def rd (p q : Nat) : Nat := min (rdD p q * 4503599627370496 + rhe p (q * 2 ^ rdD p q)) 9218868437227405312
theorem rd_near (p q : Nat) (hq : 0 < q) : Near (rd p q) p q := by
  unfold rd
  refine near_rhe (rdD p q) p q hq ?_ ?_
  · unfold rdD
    split
    · rename_i h
      rw [Nat.pow_zero, Nat.mul_one]
      exact (Nat.div_lt_iff_lt_mul hq).1 h
    · rename_i h
      have h2 := Nat.lt_log2_self (n := p / q)
      have h0 : p / q ≠ 0 := by omega
      have hL : 53 ≤ (p / q).log2 := by rw [Nat.le_log2 h0]; omega
      have e : 9007199254740992 * (q * 2 ^ ((p / q).log2 - 52)) = 2 ^ ((p / q).log2 + 1) * q := by
        rw [show (9007199254740992 : Nat) = 2 ^ 53 by decide, Nat.mul_comm q, ← Nat.mul_assoc, ← Nat.pow_add, show 53 + ((p / q).log2 - 52) = (p / q).log2 + 1 by omega]
      rw [e]
      exact (Nat.div_lt_iff_lt_mul hq).1 h2
  · unfold rdD
    split
    · exact .inl rfl
    · rename_i h
      right
      have h0 : p / q ≠ 0 := by omega
      have h1 := Nat.log2_self_le h0
      have hL : 53 ≤ (p / q).log2 := by rw [Nat.le_log2 h0]; omega
      have e : 4503599627370496 * (q * 2 ^ ((p / q).log2 - 52)) = 2 ^ ((p / q).log2) * q := by
        rw [show (4503599627370496 : Nat) = 2 ^ 52 by decide, Nat.mul_comm q, ← Nat.mul_assoc, ← Nat.pow_add, show 52 + ((p / q).log2 - 52) = (p / q).log2 by omega]
      rw [e]
      exact (Nat.le_div_iff_mul_le hq).1 h1
theorem Near.rd {r p q : Nat} (hq : 0 < q) (h : Near r p q) : r = rd p q := h.uniq hq (rd_near p q hq)
theorem rd_scale (p q c : Nat) (hq : 0 < q) (hc : 0 < c) : rd (p * c) (q * c) = rd p q := (((rd_near p q hq).scale c hc).rd (Nat.mul_pos hq hc)).symm
theorem rd_le (p q : Nat) : rd p q ≤ 9218868437227405312 := by unfold rd; omega
theorem rd_zero (q : Nat) : rd 0 q = 0 := by
  unfold rd rdD rhe
  simp
theorem near_V {r : Nat} (h : r < 9218868437227405312) : Near r (V r) 1 where
  le := by omega
  hi := fun _ => by have := V_strict (show r < r + 1 by omega); omega
  hio := fun _ _ => by have := V_strict (show r < r + 1 by omega); omega
  lo := fun h0 => by have := V_strict (show r - 1 < r by omega); omega
  loo := fun h0 _ => by have := V_strict (show r - 1 < r by omega); omega
theorem rd_V {r : Nat} (h : r < 9218868437227405312) : rd (V r) 1 = r := ((near_V h).rd (by decide)).symm

/-- The rung of m times 2 to the e. -/
def nr (m : Nat) (e : Int) : Nat := rd (m * 2 ^ (e + 1074).toNat) (2 ^ (-(e + 1074)).toNat)
theorem nr_eq (m : Nat) (e : Int) (a b : Nat) (h : e + 1074 = (a : Int) - (b : Int)) : nr m e = rd (m * 2 ^ a) (2 ^ b) := by
  unfold nr
  obtain ⟨c, hc⟩ : ∃ c, a = (e + 1074).toNat + c := ⟨a - (e + 1074).toNat, by omega⟩
  have hb : b = (-(e + 1074)).toNat + c := by omega
  rw [hc, hb, Nat.pow_add, Nat.pow_add, ← Nat.mul_assoc, rd_scale _ _ _ (Nat.two_pow_pos _) (Nat.two_pow_pos _)]
theorem nearest_nr (neg : Bool) (m : Nat) (e : Int) : Ieee.double.nearest neg m e = Ieee.double.word neg (nr m e) := by
  by_cases hm : m = 0
  · subst hm
    unfold Ieee.Format.nearest nr
    rw [if_pos rfl, Nat.zero_mul, rd_zero]
  · obtain ⟨r, h1, h2, _⟩ := nearest_near neg m hm e (e + 1074).toNat (-(e + 1074)).toNat (by omega)
    rw [h1, h2.rd (Nat.two_pow_pos _)]
    rfl
theorem nr_zero (e : Int) : nr 0 e = 0 := by unfold nr; rw [Nat.zero_mul, rd_zero]
theorem nr_up (m k : Nat) (e : Int) : nr (m * 2 ^ k) e = nr m (e + k) := by
  rw [nr_eq m (e + k) ((e + 1074).toNat + k) (-(e + 1074)).toNat (by omega), Nat.pow_add, nr]
  congr 1
  ac_rfl

/-! ### Words as what they stand for -/
def spK (b : Nat) : Nat := b % 9223372036854775808 / 4503599627370496 - 1
theorem spE_k (b : Nat) : spE b = (spK b : Int) - 1074 := by
  unfold spE spK
  split <;> omega
theorem sp_V (b : Nat) : spM b * 2 ^ spK b = V (b % 9223372036854775808) := by
  unfold spM spK V
  have hm : b % 4503599627370496 = b % 9223372036854775808 % 4503599627370496 := by omega
  split
  · rename_i h
    rw [if_pos (by omega), h, hm]
    simp
    omega
  · rename_i h
    rw [if_neg (by omega), hm, Nat.add_comm]
theorem spM_lt (b : Nat) : spM b < 9007199254740992 := by
  unfold spM
  have : b % 4503599627370496 < 4503599627370496 := Nat.mod_lt _ (by decide)
  split <;> omega
theorem sgn_is (b : Nat) (hb : b < 18446744073709551616) : (b / 9223372036854775808 % 2 == 1) = decide (9223372036854775808 ≤ b) := by
  by_cases h : 9223372036854775808 ≤ b
  · rw [decide_eq_true h]; simp; omega
  · rw [decide_eq_false h]; simp; omega
theorem read_fin (b : Nat) (hb : b < 18446744073709551616) (h : b % 9223372036854775808 < 9218868437227405312) : Ieee.double.read b = .number (decide (9223372036854775808 ≤ b)) (spM b) (spE b) := by
  unfold Ieee.Format.read
  simp only [signW, binade_, infR, sgn_is b hb, least]
  by_cases h1 : b % 9223372036854775808 < 4503599627370496
  · rw [if_pos h1]
    unfold spM spE
    rw [if_pos (by omega), if_pos (by omega)]
    congr 1
    omega
  · rw [if_neg h1, if_pos h]
    unfold spM spE
    rw [if_neg (by omega), if_neg (by omega)]
    congr 1
    · omega
    · omega
theorem read_inf (b : Nat) (hb : b < 18446744073709551616) (h : b % 9223372036854775808 = 9218868437227405312) : Ieee.double.read b = .infinity (decide (9223372036854775808 ≤ b)) := by
  unfold Ieee.Format.read
  simp only [signW, binade_, infR, sgn_is b hb, least]
  rw [if_neg (by omega), if_neg (by omega), if_pos h]
theorem read_nanB (b : Nat) (h : nanB b = true) : ∃ s t, Ieee.double.read b = .nan s t := by
  have h' : b % 9223372036854775808 > 9218868437227405312 := by rw [nanB_is] at h; simpa using h
  unfold Ieee.Format.read
  simp only [signW, binade_, infR]
  rw [if_neg (by omega), if_neg (by omega), if_neg (by omega)]
  exact ⟨_, _, rfl⟩
theorem nr_sp (b : Nat) (h : b % 9223372036854775808 < 9218868437227405312) : nr (spM b) (spE b) = b % 9223372036854775808 := by
  rw [nr_eq (spM b) (spE b) (spK b) 0 (by rw [spE_k]; omega), sp_V, Nat.pow_zero, rd_V h]
theorem word_b (b : Nat) (hb : b < 18446744073709551616) : Ieee.double.word (decide (9223372036854775808 ≤ b)) (b % 9223372036854775808) = b := by
  unfold Ieee.Format.word
  rw [signW]
  by_cases h : 9223372036854775808 ≤ b
  · rw [decide_eq_true h, if_pos rfl]; omega
  · rw [decide_eq_false h, if_neg (by decide)]; omega

/-- The quotient with its sticky digit is rounded as the quotient is. -/
theorem nr_quot (m n : Nat) (hm : m ≠ 0) (hn : n ≠ 0) (hm2 : m < 9007199254740992) (i j : Int) (a b : Nat) (h : i - j + 1074 = (a : Int) - (b : Int)) :
    nr (2 * ((m <<< (54 + n.log2 - m.log2)) / n) + ((m <<< (54 + n.log2 - m.log2)) % n != 0).toNat) (i - j - (54 + n.log2 - m.log2 : Nat) - 1) = rd (m * 2 ^ a) (n * 2 ^ b) := by
  have hl : m.log2 ≤ 52 := by
    have : m.log2 < 53 := by rw [Nat.log2_lt hm]; exact hm2
    omega
  have m1 := Nat.log2_self_le hm
  have m2 := Nat.lt_log2_self (n := m)
  have n1 := Nat.log2_self_le hn
  have n2 := Nat.lt_log2_self (n := n)
  have hnp : 0 < n := Nat.pos_of_ne_zero hn
  rw [Nat.shiftLeft_eq]
  generalize hmo : 54 + n.log2 - m.log2 = more at *
  generalize hD : m * 2 ^ more = D at *
  have hDlo : 2 ^ (n.log2 + 54) ≤ D := by
    have : 2 ^ m.log2 * 2 ^ more ≤ D := by rw [← hD]; exact Nat.mul_le_mul_right _ m1
    rw [← Nat.pow_add] at this
    exact Nat.le_trans (Nat.pow_le_pow_right (by decide) (by omega)) this
  have hq53 : 2 ^ 53 ≤ D / n := by
    rw [Nat.le_div_iff_mul_le hnp]
    have : 2 ^ 53 * n ≤ 2 ^ 53 * 2 ^ (n.log2 + 1) := Nat.mul_le_mul_left _ (Nat.le_of_lt n2)
    rw [← Nat.pow_add] at this
    exact Nat.le_trans this (by rw [show 53 + (n.log2 + 1) = n.log2 + 54 by omega]; exact hDlo)
  obtain ⟨s, hs⟩ : ∃ s, (D % n != 0).toNat = s := ⟨_, rfl⟩
  have hs1 : s ≤ 1 := by rw [← hs]; exact Bool.toNat_le _
  obtain ⟨t, ht⟩ : ∃ t, 2 * (D / n) + s = t := ⟨_, rfl⟩
  have ht0 : t ≠ 0 := by
    have := Nat.two_pow_pos 53; omega
  obtain ⟨g, hg⟩ : ∃ g : Int, i - j - (more : Int) - 1 = g := ⟨_, rfl⟩
  rw [hs, ht, hg]
  obtain ⟨r, e1, e2, d, e3, e4⟩ := nearest_near false t ht0 g (g + 1074).toNat (-(g + 1074)).toNat (by omega)
  have hr : nr t g = r := ((e2.rd (Nat.two_pow_pos _)).symm : _)
  rw [hr]
  have tL : 54 ≤ t.log2 := by
    rw [Nat.le_log2 ht0]
    have : 2 ^ 54 = 2 * 2 ^ 53 := by decide
    omega
  have t1 := Nat.log2_self_le ht0
  have t2 := Nat.lt_log2_self (n := t)
  generalize hL : t.log2 = L at *
  -- how many digits are dropped
  obtain ⟨k, hk⟩ : ∃ k : Nat, (d : Int) - 1074 - g = (k : Int) + 2 := ⟨((d : Int) - 1074 - g - 2).toNat, by omega⟩
  have x1 : rhe (t * 2 ^ (g + 1074).toNat) (2 ^ (-(g + 1074)).toNat * 2 ^ d) = rhe t (2 ^ (k + 2)) := by
    rw [← Nat.pow_add, show (-(g + 1074)).toNat + d = k + 2 + (g + 1074).toNat by omega, Nat.pow_add, rhe_scale _ _ _ (Nat.two_pow_pos _)]
  have x2 : rhe t (2 ^ (k + 2)) = rhe D (n * 2 ^ (k + 1)) := by
    rw [← ht, ← hs]; exact rhe_sticky D n k hnp
  have x3 : rhe D (n * 2 ^ (k + 1)) = rhe (m * 2 ^ a) (n * 2 ^ b * 2 ^ d) := by
    rw [← hD]
    have hx : more + (b + d) = a + (k + 1) := by omega
    rw [← rhe_scale (m * 2 ^ more) (n * 2 ^ (k + 1)) (2 ^ (b + d)) (Nat.two_pow_pos _), ← rhe_scale (m * 2 ^ a) (n * 2 ^ b * 2 ^ d) (2 ^ (k + 1)) (Nat.two_pow_pos _)]
    congr 1
    · rw [Nat.mul_assoc, Nat.mul_assoc, ← Nat.pow_add, ← Nat.pow_add, hx]
    · rw [Nat.mul_assoc, Nat.mul_assoc, Nat.mul_assoc, ← Nat.pow_add, ← Nat.pow_add, ← Nat.pow_add, show k + 1 + (b + d) = b + (d + (k + 1)) by omega]
  rw [x1, x2, x3] at e3
  rw [e3]
  have hDq := Nat.div_add_mod D n
  have hDm := Nat.mod_lt D hnp
  have hu1 : D < 2 ^ L * n := by
    have : D / n < 2 ^ L := by rw [Nat.pow_succ] at t2; omega
    exact (Nat.div_lt_iff_lt_mul hnp).1 this
  have hu2 : 2 ^ (L - 1) * n ≤ D := by
    have : 2 ^ (L - 1) ≤ D / n := by
      have : 2 ^ L = 2 * 2 ^ (L - 1) := by rw [← Nat.pow_succ']; congr 1; omega
      omega
    exact (Nat.le_div_iff_mul_le hnp).1 this
  refine (near_rhe d (m * 2 ^ a) (n * 2 ^ b) (Nat.mul_pos hnp (Nat.two_pow_pos b)) ?_ ?_).rd (Nat.mul_pos hnp (Nat.two_pow_pos b))
  · -- m 2^a < 2^53 n 2^b 2^d
    have c1 : m * 2 ^ a * 2 ^ more < 9007199254740992 * (n * 2 ^ b * 2 ^ d) * 2 ^ more := by
      rw [show m * 2 ^ a * 2 ^ more = D * 2 ^ a by rw [← hD]; ac_rfl]
      have := Nat.mul_lt_mul_of_pos_right hu1 (Nat.two_pow_pos a)
      refine Nat.lt_of_lt_of_le this ?_
      have e5 : 9007199254740992 * (n * 2 ^ b * 2 ^ d) * 2 ^ more = 2 ^ (53 + b + d + more) * n := by
        rw [show (9007199254740992 : Nat) = 2 ^ 53 by decide, Nat.pow_add, Nat.pow_add, Nat.pow_add]; ac_rfl
      rw [e5, show 2 ^ L * n * 2 ^ a = 2 ^ (L + a) * n by rw [Nat.pow_add]; ac_rfl]
      exact Nat.mul_le_mul_right _ (Nat.pow_le_pow_right (by decide) (by omega))
    exact Nat.lt_of_mul_lt_mul_right c1
  · by_cases hd0 : d = 0
    · exact .inl hd0
    · right
      have c1 : 4503599627370496 * (n * 2 ^ b * 2 ^ d) * 2 ^ more ≤ m * 2 ^ a * 2 ^ more := by
        rw [show m * 2 ^ a * 2 ^ more = D * 2 ^ a by rw [← hD]; ac_rfl]
        have := Nat.mul_le_mul_right (2 ^ a) hu2
        refine Nat.le_trans ?_ this
        have e5 : 4503599627370496 * (n * 2 ^ b * 2 ^ d) * 2 ^ more = 2 ^ (52 + b + d + more) * n := by
          rw [show (4503599627370496 : Nat) = 2 ^ 52 by decide, Nat.pow_add, Nat.pow_add, Nat.pow_add]; ac_rfl
        rw [e5, show 2 ^ (L - 1) * n * 2 ^ a = 2 ^ (L - 1 + a) * n by rw [Nat.pow_add]; ac_rfl]
        exact Nat.mul_le_mul_right _ (Nat.pow_le_pow_right (by decide) (by omega))
      exact Nat.le_of_mul_le_mul_right c1 (Nat.two_pow_pos more)
end Go.Proofs.YtoonneminimbfaaGreatDoor
