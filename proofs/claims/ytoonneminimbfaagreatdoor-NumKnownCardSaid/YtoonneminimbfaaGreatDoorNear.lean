/- Rounding: which rung a fraction belongs to. -/
import Derived.Test.YtoonneminimbfaaGreatDoorRanks
namespace Go.Proofs.YtoonneminimbfaaGreatDoor
set_option linter.unusedVariables false
set_option linter.unusedSimpArgs false

/-- To the nearest whole number, ties to even, of p by q. -/
def rhe (p q : Nat) : Nat := p / q + (decide (q < 2 * (p % q)) || (q == 2 * (p % q) && p / q % 2 == 1)).toNat

theorem rhe_cases (p q : Nat) (hq : 0 < q) : (rhe p q = p / q ∧ 2 * (p % q) ≤ q ∧ (p / q % 2 = 1 → 2 * (p % q) < q)) ∨ (rhe p q = p / q + 1 ∧ q ≤ 2 * (p % q) ∧ (p / q % 2 = 0 → q < 2 * (p % q))) := by
  unfold rhe
  by_cases h1 : q < 2 * (p % q)
  · right
    rw [decide_eq_true h1]
    exact ⟨rfl, by omega, fun _ => h1⟩
  · rw [decide_eq_false h1]
    by_cases h2 : q = 2 * (p % q)
    · have e2 : (q == 2 * (p % q)) = true := by simpa using h2
      rw [e2]
      by_cases h3 : p / q % 2 = 1
      · right
        have e3 : (p / q % 2 == 1) = true := by simpa using h3
        rw [e3]
        exact ⟨rfl, by omega, fun h => by omega⟩
      · left
        have e3 : (p / q % 2 == 1) = false := by simpa using h3
        rw [e3]
        exact ⟨rfl, by omega, fun h => by omega⟩
    · left
      have e2 : (q == 2 * (p % q)) = false := by simpa using h2
      rw [e2]
      exact ⟨rfl, by omega, fun h => by omega⟩
theorem rhe_le (p q : Nat) : p / q ≤ rhe p q ∧ rhe p q ≤ p / q + 1 := by
  unfold rhe
  have := Bool.toNat_le (decide (q < 2 * (p % q)) || (q == 2 * (p % q) && p / q % 2 == 1))
  omega
theorem rhe_spec (p q : Nat) (hq : 0 < q) : 2 * p ≤ (2 * rhe p q + 1) * q ∧ 2 * rhe p q * q ≤ 2 * p + q ∧ (rhe p q % 2 = 1 → 2 * p < (2 * rhe p q + 1) * q ∧ 2 * rhe p q * q < 2 * p + q) := by
  have hp := Nat.div_add_mod p q
  have hr := Nat.mod_lt p hq
  rcases rhe_cases p q hq with ⟨e, h1, h2⟩ | ⟨e, h1, h2⟩ <;> rw [e]
  · generalize p / q = f at *
    generalize p % q = s at *
    have e1 : (2 * f + 1) * q = 2 * (q * f) + q := by rw [Nat.add_mul, Nat.one_mul, Nat.mul_assoc, Nat.mul_comm f q]
    have e2 : 2 * f * q = 2 * (q * f) := by rw [Nat.mul_assoc, Nat.mul_comm f q]
    rw [e1, e2]
    generalize q * f = F at *
    refine ⟨by omega, by omega, fun h => ?_⟩
    have := h2 h
    omega
  · generalize p / q = f at *
    generalize p % q = s at *
    have e1 : (2 * (f + 1) + 1) * q = 2 * (q * f) + 3 * q := by rw [show 2 * (f + 1) + 1 = 2 * f + 3 by omega, Nat.add_mul, Nat.mul_assoc, Nat.mul_comm f q]
    have e2 : 2 * (f + 1) * q = 2 * (q * f) + 2 * q := by rw [show 2 * (f + 1) = 2 * f + 2 by omega, Nat.add_mul, Nat.mul_assoc, Nat.mul_comm f q]
    rw [e1, e2]
    generalize q * f = F at *
    refine ⟨by omega, by omega, fun h => ?_⟩
    have := h2 (by omega)
    omega
theorem rhe_scale (p q c : Nat) (hc : 0 < c) : rhe (p * c) (q * c) = rhe p q := by
  unfold rhe
  rw [Nat.mul_div_mul_right _ _ hc, Nat.mul_mod_mul_right]
  have e1 : decide (q * c < 2 * (p % q * c)) = decide (q < 2 * (p % q)) := by
    rw [← Nat.mul_assoc]
    exact decide_eq_decide.2 (Nat.mul_lt_mul_right hc)
  have e2 : (q * c == 2 * (p % q * c)) = (q == 2 * (p % q)) := by
    rw [← Nat.mul_assoc, Bool.eq_iff_iff]
    simp only [beq_iff_eq]
    exact ⟨fun h => Nat.eq_of_mul_eq_mul_right hc h, fun h => congrArg (· * c) h⟩
  rw [e1, e2]
/-- What is left over told by one digit more, where at least one digit is dropped. -/
theorem rhe_sticky (a b k : Nat) (hb : 0 < b) : rhe (2 * (a / b) + (a % b != 0).toNat) (2 ^ (k + 2)) = rhe a (b * 2 ^ (k + 1)) := by
  obtain ⟨s, hs⟩ : ∃ s, (a % b != 0).toNat = s := ⟨_, rfl⟩
  have hs1 : (s = 0 ∧ a % b = 0) ∨ (s = 1 ∧ a % b ≠ 0) := by
    by_cases h : a % b = 0
    · left; rw [h] at hs; exact ⟨hs.symm, h⟩
    · right
      have : (a % b != 0) = true := by simpa using h
      rw [this] at hs; exact ⟨hs.symm, h⟩
  rw [hs]
  have hab := Nat.div_add_mod a b
  have hlt := Nat.mod_lt a hb
  have hf : a / (b * 2 ^ (k + 1)) = a / b / 2 ^ (k + 1) := by rw [Nat.div_div_eq_div_mul]
  have hm : a % (b * 2 ^ (k + 1)) = b * (a / b % 2 ^ (k + 1)) + a % b := by
    rw [Nat.mod_mul]; omega
  generalize a / b = u at *
  generalize a % b = t at *
  have hP : 2 ^ (k + 2) = 2 * 2 ^ (k + 1) := by rw [Nat.pow_succ 2 (k + 1)]; omega
  have hP1 : 2 ^ (k + 1) = 2 * 2 ^ k := by rw [Nat.pow_succ]; omega
  have hk := Nat.two_pow_pos k
  have hu := Nat.div_add_mod u (2 ^ (k + 1))
  have hul := Nat.mod_lt u (Nat.two_pow_pos (k + 1))
  have hd2 : (2 * u + s) / 2 ^ (k + 2) = u / 2 ^ (k + 1) := by
    rw [hP, ← Nat.div_div_eq_div_mul]
    congr 1
    omega
  have hm2 : (2 * u + s) % 2 ^ (k + 2) = 2 * (u % 2 ^ (k + 1)) + s := by
    rw [hP, Nat.mod_mul]
    have : (2 * u + s) / 2 = u := by omega
    rw [this]
    omega
  unfold rhe
  rw [hd2, hm2, hf, hm]
  generalize u / 2 ^ (k + 1) = f at *
  generalize hv : u % 2 ^ (k + 1) = v at *
  rw [hP, hP1]
  generalize 2 ^ k = K at *
  clear hu hd2 hm2 hf hm hP hab
  have c1 : decide (2 * (2 * K) < 2 * (2 * v + s)) = decide (b * (2 * K) < 2 * (b * v + t)) := by
    apply decide_eq_decide.2
    have e : b * (2 * K) = 2 * (b * K) := by ac_rfl
    rw [e]
    rcases Nat.lt_trichotomy v K with h | h | h
    · have h1 : b * v + b ≤ b * K := by rw [← Nat.mul_succ]; exact Nat.mul_le_mul_left b h
      constructor
      · intro h2; omega
      · intro h2; omega
    · subst h
      constructor
      · intro h2; omega
      · intro h2; omega
    · have h1 : b * K + b ≤ b * v := by rw [← Nat.mul_succ]; exact Nat.mul_le_mul_left b h
      constructor
      · intro h2; omega
      · intro h2; omega
  have c2 : (2 * (2 * K) == 2 * (2 * v + s)) = (b * (2 * K) == 2 * (b * v + t)) := by
    rw [Bool.eq_iff_iff]
    simp only [beq_iff_eq]
    have e : b * (2 * K) = 2 * (b * K) := by ac_rfl
    rw [e]
    rcases Nat.lt_trichotomy v K with h | h | h
    · have h1 : b * v + b ≤ b * K := by rw [← Nat.mul_succ]; exact Nat.mul_le_mul_left b h
      constructor
      · intro h2; omega
      · intro h2; omega
    · subst h
      constructor
      · intro h2; omega
      · intro h2; omega
    · have h1 : b * K + b ≤ b * v := by rw [← Nat.mul_succ]; exact Nat.mul_le_mul_left b h
      constructor
      · intro h2; omega
      · intro h2; omega
  rw [c1, c2]

/-- The rung r is that of the fraction p by q, which counts units of the least place. -/
structure Near (r p q : Nat) : Prop where
  le : r ≤ 9218868437227405312
  hi : r < 9218868437227405312 → 2 * p ≤ (V r + V (r + 1)) * q
  hio : r < 9218868437227405312 → r % 2 = 1 → 2 * p < (V r + V (r + 1)) * q
  lo : 0 < r → (V (r - 1) + V r) * q ≤ 2 * p
  loo : 0 < r → r % 2 = 1 → (V (r - 1) + V r) * q < 2 * p

theorem V_mono {a b : Nat} (h : a ≤ b) : V a ≤ V b := by
  rcases Nat.lt_or_ge a b with h1 | h1
  · exact Nat.le_of_lt (V_strict h1)
  · have : a = b := by omega
    rw [this]; exact Nat.le_refl _
theorem Near.not_lt {r s p q : Nat} (hq : 0 < q) (h : Near r p q) (h' : Near s p q) : ¬ r < s := by
  intro hlt
  have hr : r < 9218868437227405312 := by have := h'.le; omega
  have a1 := h.hi hr
  have a2 := h'.lo (by omega)
  have m1 : V r ≤ V (s - 1) := V_mono (by omega)
  have m2 : V (r + 1) ≤ V s := V_mono (by omega)
  have m3 : (V r + V (r + 1)) * q ≤ (V (s - 1) + V s) * q := Nat.mul_le_mul_right _ (by omega)
  have heq : (V r + V (r + 1)) * q = (V (s - 1) + V s) * q := by omega
  have heq2 := Nat.eq_of_mul_eq_mul_right hq heq
  have hs : s = r + 1 := by
    have : V (r + 1) = V s := by omega
    exact (V_inj this).symm
  subst hs
  rcases Nat.mod_two_eq_zero_or_one r with h0 | h0
  · have := h'.loo (by omega) (by omega)
    omega
  · have := h.hio hr h0
    omega
theorem Near.uniq {r s p q : Nat} (hq : 0 < q) (h : Near r p q) (h' : Near s p q) : r = s := by
  have h1 := Near.not_lt hq h h'
  have h2 := Near.not_lt hq h' h
  omega
theorem Near.scale {r p q : Nat} (c : Nat) (hc : 0 < c) (h : Near r p q) : Near r (p * c) (q * c) where
  le := h.le
  hi := fun hr => by have := Nat.mul_le_mul_right c (h.hi hr); rw [← Nat.mul_assoc, ← Nat.mul_assoc]; exact this
  hio := fun hr ho => by have := Nat.mul_lt_mul_of_pos_right (h.hio hr ho) hc; rw [← Nat.mul_assoc, ← Nat.mul_assoc]; exact this
  lo := fun hr => by have := Nat.mul_le_mul_right c (h.lo hr); rw [← Nat.mul_assoc, ← Nat.mul_assoc]; exact this
  loo := fun hr ho => by have := Nat.mul_lt_mul_of_pos_right (h.loo hr ho) hc; rw [← Nat.mul_assoc, ← Nat.mul_assoc]; exact this
theorem Near.unscale {r p q : Nat} (c : Nat) (hc : 0 < c) (h : Near r (p * c) (q * c)) : Near r p q where
  le := h.le
  hi := fun hr => by have := h.hi hr; rw [← Nat.mul_assoc, ← Nat.mul_assoc] at this; exact Nat.le_of_mul_le_mul_right this hc
  hio := fun hr ho => by have := h.hio hr ho; rw [← Nat.mul_assoc, ← Nat.mul_assoc] at this; exact Nat.lt_of_mul_lt_mul_right this
  lo := fun hr => by have := h.lo hr; rw [← Nat.mul_assoc, ← Nat.mul_assoc] at this; exact Nat.le_of_mul_le_mul_right this hc
  loo := fun hr ho => by have := h.loo hr ho; rw [← Nat.mul_assoc, ← Nat.mul_assoc] at this; exact Nat.lt_of_mul_lt_mul_right this

theorem V_at (d k : Nat) (hk : k ≤ 9007199254740992) (hd : d = 0 ∨ 4503599627370496 ≤ k) : V (d * 4503599627370496 + k) = k * 2 ^ d := by
  unfold V
  rcases Nat.lt_or_ge k 9007199254740992 with h | h
  · rcases Nat.lt_or_ge k 4503599627370496 with h1 | h1
    · have : d = 0 := by omega
      subst this
      rw [if_pos (by omega)]; simp
    · rw [if_neg (by omega)]
      have e1 : (d * 4503599627370496 + k) % 4503599627370496 = k - 4503599627370496 := by omega
      have e2 : (d * 4503599627370496 + k) / 4503599627370496 - 1 = d := by omega
      rw [e1, e2, show 4503599627370496 + (k - 4503599627370496) = k by omega]
  · have hk2 : k = 9007199254740992 := by omega
    subst hk2
    rw [if_neg (by omega)]
    have e1 : (d * 4503599627370496 + 9007199254740992) % 4503599627370496 = 0 := by omega
    have e2 : (d * 4503599627370496 + 9007199254740992) / 4503599627370496 - 1 = d + 1 := by omega
    rw [e1, e2, Nat.pow_succ]
    omega

theorem near_rhe (d p q : Nat) (hq : 0 < q) (hhi : p < 9007199254740992 * (q * 2 ^ d)) (hlo : d = 0 ∨ 4503599627370496 * (q * 2 ^ d) ≤ p) :
    Near (min (d * 4503599627370496 + rhe p (q * 2 ^ d)) 9218868437227405312) p q := by
  have hQ : 0 < q * 2 ^ d := Nat.mul_pos hq (Nat.two_pow_pos d)
  have hs := rhe_spec p (q * 2 ^ d) hQ
  have hl := rhe_le p (q * 2 ^ d)
  have hk1 : p / (q * 2 ^ d) < 9007199254740992 := by rw [Nat.div_lt_iff_lt_mul hQ]; exact hhi
  have hk2 : d = 0 ∨ 4503599627370496 ≤ p / (q * 2 ^ d) := by
    rcases hlo with h | h
    · exact .inl h
    · right; rw [Nat.le_div_iff_mul_le hQ]; exact h
  generalize rhe p (q * 2 ^ d) = k at *
  generalize p / (q * 2 ^ d) = f at *
  have hkd : d = 0 ∨ 4503599627370496 ≤ k := by omega
  have hVr := V_at d k (by omega) hkd
  obtain ⟨s1, s2, s3⟩ := hs
  have eV : V (d * 4503599627370496 + k) * q = k * (q * 2 ^ d) := by rw [hVr]; ac_rfl
  have hpar : (d * 4503599627370496 + k) % 2 = k % 2 := by omega
  -- the upper bound
  have up : 2 * p ≤ (V (d * 4503599627370496 + k) + V (d * 4503599627370496 + k + 1)) * q ∧ (k % 2 = 1 → 2 * p < (V (d * 4503599627370496 + k) + V (d * 4503599627370496 + k + 1)) * q) := by
    rcases Nat.lt_or_ge k 9007199254740992 with h | h
    · have h1 := V_at d (k + 1) (by omega) (by omega)
      rw [← Nat.add_assoc] at h1
      have e : (V (d * 4503599627370496 + k) + V (d * 4503599627370496 + k + 1)) * q = (2 * k + 1) * (q * 2 ^ d) := by
        rw [hVr, h1, ← Nat.add_mul, show k + (k + 1) = 2 * k + 1 by omega]; ac_rfl
      rw [e]
      exact ⟨s1, fun ho => (s3 ho).1⟩
    · have hk : k = 9007199254740992 := by omega
      have hlt : 2 * p < (V (d * 4503599627370496 + k) + V (d * 4503599627370496 + k + 1)) * q := by
        have h1 : V (d * 4503599627370496 + k) ≤ V (d * 4503599627370496 + k + 1) := V_mono (by omega)
        have h2 := Nat.mul_le_mul_right q h1
        rw [Nat.add_mul, eV]
        rw [eV] at h2
        rw [hk] at h2 ⊢
        omega
      exact ⟨Nat.le_of_lt hlt, fun _ => hlt⟩
  -- the lower bound
  have dn : 0 < d * 4503599627370496 + k → (V (d * 4503599627370496 + k - 1) + V (d * 4503599627370496 + k)) * q ≤ 2 * p ∧ (k % 2 = 1 → (V (d * 4503599627370496 + k - 1) + V (d * 4503599627370496 + k)) * q < 2 * p) := by
    intro hpos
    by_cases hc : d = 0 ∨ 4503599627370496 + 1 ≤ k
    · have hk0 : 1 ≤ k := by omega
      have h1 := V_at d (k - 1) (by omega) (by omega)
      have e0 : d * 4503599627370496 + (k - 1) = d * 4503599627370496 + k - 1 := by omega
      rw [e0] at h1
      have e : (V (d * 4503599627370496 + k - 1) + V (d * 4503599627370496 + k)) * q + q * 2 ^ d = 2 * k * (q * 2 ^ d) := by
        rw [hVr, h1, ← Nat.add_mul]
        have : (k - 1 + k) * 2 ^ d * q = (k - 1 + k) * (q * 2 ^ d) := by ac_rfl
        rw [this]
        have h2 : (k - 1 + k) * (q * 2 ^ d) + (q * 2 ^ d) = (k - 1 + k + 1) * (q * 2 ^ d) := by rw [Nat.succ_mul]
        rw [h2, show k - 1 + k + 1 = 2 * k by omega]
      refine ⟨by omega, fun ho => ?_⟩
      have := (s3 ho).2
      omega
    · have hk : k = 4503599627370496 := by omega
      have hlo2 : 4503599627370496 * (q * 2 ^ d) ≤ p := by
        rcases hlo with h | h
        · omega
        · exact h
      have hlt : (V (d * 4503599627370496 + k - 1) + V (d * 4503599627370496 + k)) * q < 2 * p := by
        have h1 : V (d * 4503599627370496 + k - 1) < V (d * 4503599627370496 + k) := V_strict (by omega)
        have h2 := Nat.mul_lt_mul_of_pos_right h1 hq
        rw [Nat.add_mul]
        rw [eV] at h2 ⊢
        rw [hk] at h2 ⊢
        omega
      exact ⟨Nat.le_of_lt hlt, fun _ => hlt⟩
  rcases Nat.lt_or_ge 9218868437227405312 (d * 4503599627370496 + k) with hbig | hsm
  · -- beyond
    rw [Nat.min_eq_right (by omega)]
    have hd : 2046 ≤ d := by omega
    have hlo2 : 4503599627370496 * (q * 2 ^ d) ≤ p := by
      rcases hlo with h | h
      · omega
      · exact h
    obtain ⟨N, hN⟩ : ∃ N : Nat, N = 2046 := ⟨_, rfl⟩
    have hpw : 2 ^ N ≤ 2 ^ d := Nat.pow_le_pow_right (by decide) (by omega)
    have hV : V 9218868437227405312 = 4503599627370496 * 2 ^ N := by
      have := V_at N 4503599627370496 (by omega) (by omega)
      rwa [show N * 4503599627370496 + 4503599627370496 = 9218868437227405312 by omega] at this
    have hVl : V (9218868437227405312 - 1) < V 9218868437227405312 := V_strict (by omega)
    have hle : V 9218868437227405312 * q ≤ p := by
      rw [hV]
      refine Nat.le_trans ?_ hlo2
      rw [Nat.mul_assoc, Nat.mul_comm q]
      exact Nat.mul_le_mul_left _ (Nat.mul_le_mul_right _ hpw)
    have h2 := Nat.mul_lt_mul_of_pos_right hVl hq
    refine ⟨Nat.le_refl _, fun h => absurd h (by omega), fun h => absurd h (by omega), fun _ => ?_, fun _ h => absurd h (by omega)⟩
    rw [Nat.add_mul]
    generalize V 9218868437227405312 * q = X at *
    generalize V (9218868437227405312 - 1) * q = Y at *
    omega
  · rw [Nat.min_eq_left hsm]
    exact ⟨hsm, fun _ => up.1, fun _ ho => up.2 (by omega), fun h0 => (dn h0).1, fun h0 ho => (dn h0).2 (by omega)⟩

theorem cut_rhe (neg : Bool) (n d : Nat) (hn : n ≠ 0) : Ieee.Toward.even.cut neg n d = rhe n (2 ^ d) := by
  rcases Nat.lt_or_ge (n.log2 + 2) d with h | h
  · have h1 := Nat.lt_log2_self (n := n)
    have h2 : 2 ^ (n.log2 + 2) = 2 * 2 ^ (n.log2 + 1) := by rw [Nat.pow_succ 2 (n.log2 + 1)]; omega
    have h3 : 2 ^ (n.log2 + 2) ≤ 2 ^ d := Nat.pow_le_pow_right (by decide) (by omega)
    unfold Ieee.Toward.cut rhe
    simp only [Nat.min_eq_right (Nat.le_of_lt h), Nat.shiftLeft_eq, Nat.one_mul]
    rw [Nat.div_eq_of_lt (by omega : n < 2 ^ (n.log2 + 2)), Nat.mod_eq_of_lt (by omega : n < 2 ^ (n.log2 + 2)), Nat.div_eq_of_lt (by omega : n < 2 ^ d), Nat.mod_eq_of_lt (by omega : n < 2 ^ d)]
    have d1 : decide (2 ^ (n.log2 + 2) < 2 * n) = false := by simp; omega
    have d2 : decide (2 ^ d < 2 * n) = false := by simp; omega
    rw [d1, d2]
    simp
  · rw [cut_even neg n d h]
    rfl

theorem nearest_near (neg : Bool) (m : Nat) (hm : m ≠ 0) (e : Int) (a b : Nat) (h : e + 1074 = (a : Int) - (b : Int)) : ∃ r, Ieee.double.nearest neg m e = Ieee.double.word neg r ∧ Near r (m * 2 ^ a) (2 ^ b) ∧
    ∃ d, r = min (d * 4503599627370496 + rhe (m * 2 ^ a) (2 ^ b * 2 ^ d)) 9218868437227405312 ∧ (d : Int) = max (e + m.log2 - 52) (-1074) + 1074 := by
  unfold Ieee.Format.nearest
  rw [if_neg hm]
  have h1 := Nat.log2_self_le hm
  have h2 := Nat.lt_log2_self (n := m)
  simp only [least, fracB, binade_, infR]
  generalize hL : m.log2 = L at *
  obtain ⟨d, hd⟩ : ∃ d : Nat, (d : Int) = max (e + (L : Int) - 52) (-1074) + 1074 := ⟨(max (e + (L : Int) - 52) (-1074) + 1074).toNat, by omega⟩
  have hmax : max (e + (L : Int) - ((52 : Nat) : Int)) (-1074) = (d : Int) - 1074 := by
    rw [show ((52 : Nat) : Int) = 52 by rfl]; omega
  rw [hmax]
  have e1 : ((d : Int) - 1074 - -1074).toNat = d := by omega
  have e2 : (e - ((d : Int) - 1074)).toNat = a - (b + d) := by omega
  have e3 : ((d : Int) - 1074 - e).toNat = b + d - a := by omega
  rw [e1, e2, e3, Nat.shiftLeft_eq, cut_rhe _ _ _ (by have := Nat.mul_pos (Nat.pos_of_ne_zero hm) (Nat.two_pow_pos (a - (b + d))); omega)]
  have e4 : rhe (m * 2 ^ (a - (b + d))) (2 ^ (b + d - a)) = rhe (m * 2 ^ a) (2 ^ b * 2 ^ d) := by
    rw [← Nat.pow_add]
    rcases Nat.le_total a (b + d) with hc | hc
    · rw [show a - (b + d) = 0 by omega, ← rhe_scale _ _ (2 ^ a) (Nat.two_pow_pos a), ← Nat.pow_add, show b + d - a + a = b + d by omega]; simp
    · rw [show b + d - a = 0 by omega, ← rhe_scale _ _ (2 ^ (b + d)) (Nat.two_pow_pos _), Nat.mul_assoc, ← Nat.pow_add, show a - (b + d) + (b + d) = a by omega]; simp
  rw [e4]
  have hp : 9007199254740992 * (2 ^ b * 2 ^ d) = 2 ^ (53 + b + d) := by rw [show (9007199254740992 : Nat) = 2 ^ 53 by decide, ← Nat.pow_add, ← Nat.pow_add]; congr 1; omega
  have hp2 : 4503599627370496 * (2 ^ b * 2 ^ d) = 2 ^ (52 + b + d) := by rw [show (4503599627370496 : Nat) = 2 ^ 52 by decide, ← Nat.pow_add, ← Nat.pow_add]; congr 1; omega
  refine ⟨_, rfl, near_rhe d (m * 2 ^ a) (2 ^ b) (Nat.two_pow_pos b) ?_ ?_, d, rfl, hd⟩
  · rw [hp]
    have : m * 2 ^ a < 2 ^ (L + 1) * 2 ^ a := Nat.mul_lt_mul_of_pos_right h2 (Nat.two_pow_pos a)
    rw [← Nat.pow_add] at this
    exact Nat.lt_of_lt_of_le this (Nat.pow_le_pow_right (by decide) (by omega))
  · rw [hp2]
    by_cases hd0 : d = 0
    · exact .inl hd0
    · right
      have : 2 ^ L * 2 ^ a ≤ m * 2 ^ a := Nat.mul_le_mul_right _ h1
      rw [← Nat.pow_add] at this
      exact Nat.le_trans (Nat.pow_le_pow_right (by decide) (by omega)) this
end Go.Proofs.YtoonneminimbfaaGreatDoor
