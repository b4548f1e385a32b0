/- A part of what the claim leans on. -/
import Derived.Test.YtacdfjlncfidgaaGreatDoorQC
import Derived.Laws.FloatArith
import Derived.Deep.DeepCutAuto
namespace Go.Proofs.YtacdfjlncfidgaaGreatDoor
open Go.RowKit
set_option linter.unusedVariables false
set_option linter.unusedSimpArgs false
def moreV (n gap : Nat) : Nat := (decide (gap < 2 * (n % gap)) || (gap == 2 * (n % gap) && n / gap % 2 == 1)).toNat
def rndV (n d : Nat) : Nat := n / 2 ^ d + moreV n (2 ^ d)
theorem more_le (n g : Nat) : moreV n g ≤ 1 := by unfold moreV; cases (decide (g < 2 * (n % g)) || (g == 2 * (n % g) && n / g % 2 == 1)) <;> simp
theorem cut_even (neg : Bool) (n d : Nat) (h : d ≤ n.log2 + 2) : Ieee.Toward.even.cut neg n d = rndV n d := by
 unfold Ieee.Toward.cut rndV moreV
 simp only [Nat.min_eq_left h, Nat.shiftLeft_eq, Nat.one_mul]
theorem rnd_zero (n : Nat) : rndV n 0 = n := by
 unfold rndV moreV; simp [Nat.mod_one]
def rungI (m : Nat) : Nat := if m = 0 then 0 else if m.log2 ≤ 52 then (m.log2 + 1022) * 4503599627370496 + m * 2 ^ (52 - m.log2) else (m.log2 + 1022) * 4503599627370496 + rndV m (m.log2 - 52)
theorem least : Ieee.double.leastPlace = -1074 := by decide
theorem fracB : Ieee.double.fractionBits = 52 := rfl
theorem binade_ : Ieee.double.binade = 4503599627370496 := by decide
theorem infR : Ieee.double.infRung = 9218868437227405312 := by decide
theorem signW : Ieee.double.signWeight = 9223372036854775808 := by decide
theorem rnd_le (n d : Nat) : n / 2 ^ d ≤ rndV n d ∧ rndV n d ≤ n / 2 ^ d + 1 := by
 have := more_le n (2 ^ d); unfold rndV; omega
theorem pow_cut {L d : Nat} (h : d ≤ L) : 2 ^ L / 2 ^ d = 2 ^ (L - d) := Nat.pow_div h (by decide)
theorem rung_bounds (m : Nat) (hm : m ≠ 0) : (m.log2 + 1023) * 4503599627370496 ≤ rungI m ∧ rungI m ≤ (m.log2 + 1024) * 4503599627370496 := by
 have h1 := Nat.log2_self_le hm
 have h2 := Nat.lt_log2_self (n := m)
 unfold rungI
 rw [if_neg hm]
 generalize m.log2 = L at *
 split
 · rename_i hL
   have e : 2 ^ L * 2 ^ (52 - L) = 4503599627370496 := by rw [← Nat.pow_add, show L + (52 - L) = 52 by omega]
   have e1 : 2 ^ L * 2 ^ (52 - L) ≤ m * 2 ^ (52 - L) := Nat.mul_le_mul_right _ h1
   have e2 : m * 2 ^ (52 - L) ≤ 2 ^ (L + 1) * 2 ^ (52 - L) := Nat.mul_le_mul_right _ (by omega)
   rw [Nat.pow_succ, Nat.mul_right_comm, e] at e2
   rw [e] at e1
   omega
 · rename_i hL
   have ⟨r1, r2⟩ := rnd_le m (L - 52)
   have e1 : 2 ^ L / 2 ^ (L - 52) ≤ m / 2 ^ (L - 52) := Nat.div_le_div_right h1
   have e2 : m / 2 ^ (L - 52) < 9007199254740992 := by
    rw [Nat.div_lt_iff_lt_mul (Nat.two_pow_pos _)]
    have : 9007199254740992 * 2 ^ (L - 52) = 2 ^ (L + 1) := by rw [show (9007199254740992 : Nat) = 2 ^ 53 by decide, ← Nat.pow_add, show 53 + (L - 52) = L + 1 by omega]
    omega
   rw [pow_cut (by omega), show L - (L - 52) = 52 by omega] at e1
   omega
theorem nearest_int (neg : Bool) (m : Nat) (hm : m < 18446744073709551616) : Ieee.double.nearest neg m 0 = Ieee.double.word neg (rungI m) := by
 unfold Ieee.Format.nearest
 by_cases h0 : m = 0
 · subst h0; simp [rungI]
 · rw [if_neg h0]
   have hb := rung_bounds m h0
   have h1 := Nat.log2_self_le h0
   have hlog : m.log2 < 64 := by rw [Nat.log2_lt h0]; exact hm
   simp only [least, fracB, binade_, infR]
   congr 1
   unfold rungI at hb ⊢
   rw [if_neg h0] at hb ⊢
   have hmax : max ((0 : Int) + (m.log2 : Int) - ((52 : Nat) : Int)) (-1074) = (m.log2 : Int) - 52 := by
    rw [Int.max_eq_left (by omega)]; omega
   rw [hmax]
   have e1 : ((m.log2 : Int) - 52 - -1074).toNat = m.log2 + 1022 := by omega
   rw [e1]
   have e2 : ((0 : Int) - ((m.log2 : Int) - 52)).toNat = 52 - m.log2 := by omega
   have e3 : ((m.log2 : Int) - 52 - 0).toNat = m.log2 - 52 := by omega
   rw [e2, e3]
   split at hb
   · rename_i hL
     rw [if_pos hL, show m.log2 - 52 = 0 by omega, cut_even _ _ _ (Nat.zero_le _), rnd_zero, Nat.shiftLeft_eq]
     rw [Nat.min_eq_left]; omega
   · rename_i hL
     rw [if_neg hL, show 52 - m.log2 = 0 by omega, Nat.shiftLeft_zero, cut_even _ _ _ (by omega)]
     rw [Nat.min_eq_left]; omega
theorem log2_mono {a b : Nat} (ha : a ≠ 0) (h : a ≤ b) : a.log2 ≤ b.log2 := by
 rw [Nat.le_log2 (by omega)]
 exact Nat.le_trans (Nat.log2_self_le ha) h
theorem rung_pos {m : Nat} (h : m ≠ 0) : 0 < rungI m := by have := rung_bounds m h; omega
theorem rung_strict {a b : Nat} (h : a < b) (hb53 : b ≤ 9007199254740992) : rungI a < rungI b := by
 have hb : b ≠ 0 := by omega
 by_cases ha : a = 0
 · subst ha; have := rung_pos hb; simpa [rungI] using this
 · have hl := log2_mono ha (Nat.le_of_lt h)
   have hLa : a.log2 ≤ 52 := by
    have : a.log2 < 53 := by rw [Nat.log2_lt ha]; omega
    omega
   have h2 := rung_bounds b hb
   have a2 := Nat.lt_log2_self (n := a)
   have hra : rungI a < (a.log2 + 1024) * 4503599627370496 := by
    unfold rungI
    rw [if_neg ha, if_pos hLa]
    have e : 2 ^ (a.log2 + 1) * 2 ^ (52 - a.log2) = 9007199254740992 := by rw [← Nat.pow_add, show a.log2 + 1 + (52 - a.log2) = 53 by omega]
    have e2 : a * 2 ^ (52 - a.log2) < 2 ^ (a.log2 + 1) * 2 ^ (52 - a.log2) := Nat.mul_lt_mul_of_pos_right a2 (Nat.two_pow_pos _)
    omega
   rcases Nat.lt_or_ge a.log2 b.log2 with hlt | hge
   · have : (a.log2 + 1024) * 4503599627370496 ≤ (b.log2 + 1023) * 4503599627370496 := Nat.mul_le_mul_right _ (by omega)
     omega
   · have he : a.log2 = b.log2 := by omega
     unfold rungI
     rw [if_neg ha, if_neg hb, ← he, if_pos hLa, if_pos hLa]
     have := Nat.mul_lt_mul_of_pos_right h (Nat.two_pow_pos (52 - a.log2))
     omega
def V (r : Nat) : Nat := if r < 4503599627370496 then r else (4503599627370496 + r % 4503599627370496) * 2 ^ (r / 4503599627370496 - 1)
theorem V_bounds {r : Nat} (h : 4503599627370496 ≤ r) : 4503599627370496 * 2 ^ (r / 4503599627370496 - 1) ≤ V r ∧ V r < 4503599627370496 * 2 ^ (r / 4503599627370496) := by
 unfold V
 rw [if_neg (by omega)]
 have hm : r % 4503599627370496 < 4503599627370496 := Nat.mod_lt _ (by decide)
 have hq : r / 4503599627370496 = (r / 4503599627370496 - 1) + 1 := by omega
 generalize r % 4503599627370496 = m at *
 generalize r / 4503599627370496 - 1 = q at *
 rw [hq, Nat.pow_succ]
 have hp := Nat.two_pow_pos q
 refine ⟨Nat.mul_le_mul_right _ (by omega), ?_⟩
 rw [show 4503599627370496 * (2 ^ q * 2) = 9007199254740992 * 2 ^ q by omega]
 exact Nat.mul_lt_mul_of_pos_right (by omega) hp
theorem V_strict {a b : Nat} (h : a < b) : V a < V b := by
 by_cases ha : a < 4503599627370496
 · by_cases hb : b < 4503599627370496
   · unfold V; rw [if_pos ha, if_pos hb]; exact h
   · have h1 := (V_bounds (by omega : 4503599627370496 ≤ b)).1
     have hp := Nat.two_pow_pos (b / 4503599627370496 - 1)
     have : V a = a := by unfold V; rw [if_pos ha]
     have : 4503599627370496 * 1 ≤ 4503599627370496 * 2 ^ (b / 4503599627370496 - 1) := Nat.mul_le_mul_left _ hp
     omega
 · have h1 := (V_bounds (by omega : 4503599627370496 ≤ a)).2
   have h2 := (V_bounds (by omega : 4503599627370496 ≤ b)).1
   rcases Nat.lt_or_ge (a / 4503599627370496) (b / 4503599627370496) with hlt | hge
   · have : 2 ^ (a / 4503599627370496) ≤ 2 ^ (b / 4503599627370496 - 1) := Nat.pow_le_pow_right (by decide) (by omega)
     have := Nat.mul_le_mul_left 4503599627370496 this
     omega
   · have he : a / 4503599627370496 = b / 4503599627370496 := by omega
     unfold V
     rw [if_neg ha, if_neg (by omega), he]
     exact Nat.mul_lt_mul_of_pos_right (by omega) (Nat.two_pow_pos _)
theorem V_zero : V 0 = 0 := by decide
theorem V_inj {a b : Nat} (h : V a = V b) : a = b := by
 rcases Nat.lt_trichotomy a b with h1 | h1 | h1
 · have := V_strict h1; omega
 · exact h1
 · have := V_strict h1; omega
theorem V_lt {a b : Nat} : V a < V b ↔ a < b := by
 constructor
 · intro h
   rcases Nat.lt_trichotomy a b with h1 | h1 | h1
   · exact h1
   · subst h1; omega
   · have := V_strict h1; omega
 · exact V_strict
def sgn (s : Bool) (n : Nat) : Int := if s then -(n : Int) else n
def pl (b : Nat) : Int := sgn (decide (9223372036854775808 ≤ b)) (b % 9223372036854775808)
theorem cmp_eq {x y x' y' : Int} (hlt : x < y ↔ x' < y') (heq : x = y ↔ x' = y') : compare x y = compare x' y' := by
 simp only [compare, compareOfLessAndEq, hlt, heq]
theorem cmp_sgn (s t : Bool) (a b : Nat) : compare (sgn s (V a)) (sgn t (V b)) = compare (sgn s a) (sgn t b) := by
 have h1 := @V_lt a b
 have h2 := @V_lt b a
 have h3 : V a = V b ↔ a = b := ⟨V_inj, fun h => by rw [h]⟩
 have h4 : V a = 0 ↔ a = 0 := ⟨fun h => V_inj (by rw [h, V_zero]), fun h => by rw [h, V_zero]⟩
 have h5 : V b = 0 ↔ b = 0 := ⟨fun h => V_inj (by rw [h, V_zero]), fun h => by rw [h, V_zero]⟩
 generalize V a = A at *
 generalize V b = B at *
 apply cmp_eq
 · cases s <;> cases t <;> simp only [sgn, if_true, if_false, Bool.false_eq_true] <;> omega
 · cases s <;> cases t <;> simp only [sgn, if_true, if_false, Bool.false_eq_true] <;> omega
theorem signed_eq (s : Bool) (m k : Nat) : Ieee.signed s m k = sgn s (m * 2 ^ k) := by
 unfold Ieee.signed sgn
 rw [Nat.shiftLeft_eq]
theorem sgn_mul (s : Bool) (n c : Nat) : sgn s (n * c) = sgn s n * c := by
 cases s <;> simp [sgn, Int.neg_mul]
theorem read_cases {b : Nat} (hb : b < 18446744073709551616) (hn : nanB b = false) :
  (b % 9223372036854775808 < 9218868437227405312 ∧ ∃ m p : Nat, Ieee.double.read b = .number (decide (9223372036854775808 ≤ b)) m ((p : Int) - 1074) ∧ m * 2 ^ p = V (b % 9223372036854775808)) ∨
  (b % 9223372036854775808 = 9218868437227405312 ∧ Ieee.double.read b = .infinity (decide (9223372036854775808 ≤ b))) := by
 have hn' : ¬ b % 9223372036854775808 > 9218868437227405312 := by rw [nanB_is] at hn; simpa using hn
 have hs : (b / 9223372036854775808 % 2 == 1) = decide (9223372036854775808 ≤ b) := by
  by_cases h : 9223372036854775808 ≤ b
  · rw [decide_eq_true h]; simp; omega
  · rw [decide_eq_false h]; simp; omega
 unfold Ieee.Format.read
 simp only [signW, binade_, infR, hs, least]
 generalize hr : b % 9223372036854775808 = r at *
 by_cases h1 : r < 4503599627370496
 · left
   refine ⟨by omega, r, 0, ?_, ?_⟩
   · rw [if_pos h1]; first | done | rfl
   · unfold V; rw [if_pos h1]; simp
 · by_cases h2 : r < 9218868437227405312
   · left
     refine ⟨h2, 4503599627370496 + r % 4503599627370496, r / 4503599627370496 - 1, ?_, ?_⟩
     · rw [if_neg h1, if_pos h2]; congr 1; try omega
     · unfold V; rw [if_neg h1]
   · right
     have h3 : r = 9218868437227405312 := by omega
     refine ⟨h3, ?_⟩
     rw [if_neg h1, if_neg h2, if_pos h3]
theorem order_pl {a b : Nat} (ha : a < 18446744073709551616) (hb : b < 18446744073709551616) (na : nanB a = false) (nb : nanB b = false) :
  Ieee.double.order a b = some (compare (pl a) (pl b)) := by
 unfold Ieee.Format.order pl
 rcases read_cases ha na with ⟨h1, m, p, e1, v1⟩ | ⟨h1, e1⟩ <;> rcases read_cases hb nb with ⟨h2, n, q, e2, v2⟩ | ⟨h2, e2⟩
 · rw [e1, e2]
   simp only [Ieee.Datum.order]
   rw [← cmp_sgn, ← v1, ← v2, signed_eq, signed_eq]
   congr 1
   obtain ⟨c, hc⟩ : ∃ c : Nat, min p q = c := ⟨_, rfl⟩
   have hbase : min ((p : Int) - 1074) ((q : Int) - 1074) = (c : Int) - 1074 := by omega
   have hp : (((p : Int) - 1074) - ((c : Int) - 1074)).toNat = p - c := by omega
   have hq : (((q : Int) - 1074) - ((c : Int) - 1074)).toNat = q - c := by omega
   rw [hbase, hp, hq]
   have hpc : m * 2 ^ p = m * 2 ^ (p - c) * 2 ^ c := by rw [Nat.mul_assoc, ← Nat.pow_add, show p - c + c = p by omega]
   have hqc : n * 2 ^ q = n * 2 ^ (q - c) * 2 ^ c := by rw [Nat.mul_assoc, ← Nat.pow_add, show q - c + c = q by omega]
   rw [hpc, hqc, sgn_mul _ (m * 2 ^ (p - c)) (2 ^ c), sgn_mul _ (n * 2 ^ (q - c)) (2 ^ c)]
   have hpos : (0 : Int) < ((2 ^ c : Nat) : Int) := by have := Nat.two_pow_pos c; omega
   apply cmp_eq
   · exact (Int.mul_lt_mul_right hpos).symm
   · exact ⟨fun h => by rw [h], fun h => Int.eq_of_mul_eq_mul_right (by omega) h⟩
 · rw [e1, e2]
   simp only [Ieee.Datum.order]
   congr 1
   rw [h2]
   generalize b = B
   cases decide (9223372036854775808 ≤ a) <;> cases decide (9223372036854775808 ≤ B) <;> simp only [sgn, if_true, if_false, Bool.false_eq_true] <;> simp only [compare, compareOfLessAndEq] <;> (repeat' split) <;> first | rfl | omega
 · rw [e1, e2]
   simp only [Ieee.Datum.order]
   congr 1
   rw [h1]
   cases decide (9223372036854775808 ≤ a) <;> cases decide (9223372036854775808 ≤ b) <;> simp only [sgn, if_true, if_false, Bool.false_eq_true] <;> simp only [compare, compareOfLessAndEq] <;> (repeat' split) <;> first | rfl | omega
 · rw [e1, e2, h1, h2]
   cases decide (9223372036854775808 ≤ a) <;> cases decide (9223372036854775808 ≤ b) <;> decide
def rhe (p q : Nat) : Nat := p / q + (decide (q < 2 * (p % q)) || (q == 2 * (p % q) && p / q % 2 == 1)).toNat
theorem rhe_cases (p q : Nat) (hq : 0 < q) : (rhe p q = p / q ∧ 2 * (p % q) ≤ q ∧ (p / q % 2 = 1 → 2 * (p % q) < q)) ∨ (rhe p q = p / q + 1 ∧ q ≤ 2 * (p % q) ∧ (p / q % 2 = 0 → q < 2 * (p % q))) := by
 unfold rhe
 by_cases h1 : q < 2 * (p % q)
 · right
   rw [decide_eq_true h1]
   exact ⟨rfl, by omega, fun _ => h1⟩
 · rw [decide_eq_false h1]
   by_cases h2 : q = 2 * (p % q)
   · have e2 : (q == 2 * (p % q)) = true := by simpa using h2
     rw [e2]
     by_cases h3 : p / q % 2 = 1
     · right
       have e3 : (p / q % 2 == 1) = true := by simpa using h3
       rw [e3]
       exact ⟨rfl, by omega, fun h => by omega⟩
     · left
       have e3 : (p / q % 2 == 1) = false := by simpa using h3
       rw [e3]
       exact ⟨rfl, by omega, fun h => by omega⟩
   · left
     have e2 : (q == 2 * (p % q)) = false := by simpa using h2
     rw [e2]
     exact ⟨rfl, by omega, fun h => by omega⟩
theorem rhe_le (p q : Nat) : p / q ≤ rhe p q ∧ rhe p q ≤ p / q + 1 := by
 unfold rhe
 have := Bool.toNat_le (decide (q < 2 * (p % q)) || (q == 2 * (p % q) && p / q % 2 == 1))
 omega
theorem rhe_spec (p q : Nat) (hq : 0 < q) : 2 * p ≤ (2 * rhe p q + 1) * q ∧ 2 * rhe p q * q ≤ 2 * p + q ∧ (rhe p q % 2 = 1 → 2 * p < (2 * rhe p q + 1) * q ∧ 2 * rhe p q * q < 2 * p + q) := by
 have hp := Nat.div_add_mod p q
 have hr := Nat.mod_lt p hq
 rcases rhe_cases p q hq with ⟨e, h1, h2⟩ | ⟨e, h1, h2⟩ <;> rw [e]
 · generalize p / q = f at *
   generalize p % q = s at *
   have e1 : (2 * f + 1) * q = 2 * (q * f) + q := by rw [Nat.add_mul, Nat.one_mul, Nat.mul_assoc, Nat.mul_comm f q]
   have e2 : 2 * f * q = 2 * (q * f) := by rw [Nat.mul_assoc, Nat.mul_comm f q]
   rw [e1, e2]
   generalize q * f = F at *
   refine ⟨by omega, by omega, fun h => ?_⟩
   have := h2 h
   omega
 · generalize p / q = f at *
   generalize p % q = s at *
   have e1 : (2 * (f + 1) + 1) * q = 2 * (q * f) + 3 * q := by rw [show 2 * (f + 1) + 1 = 2 * f + 3 by omega, Nat.add_mul, Nat.mul_assoc, Nat.mul_comm f q]
   have e2 : 2 * (f + 1) * q = 2 * (q * f) + 2 * q := by rw [show 2 * (f + 1) = 2 * f + 2 by omega, Nat.add_mul, Nat.mul_assoc, Nat.mul_comm f q]
   rw [e1, e2]
   generalize q * f = F at *
   refine ⟨by omega, by omega, fun h => ?_⟩
   have := h2 (by omega)
   omega
theorem rhe_scale (p q c : Nat) (hc : 0 < c) : rhe (p * c) (q * c) = rhe p q := by
 unfold rhe
 rw [Nat.mul_div_mul_right _ _ hc, Nat.mul_mod_mul_right]
 have e1 : decide (q * c < 2 * (p % q * c)) = decide (q < 2 * (p % q)) := by
  rw [← Nat.mul_assoc]
  exact decide_eq_decide.2 (Nat.mul_lt_mul_right hc)
 have e2 : (q * c == 2 * (p % q * c)) = (q == 2 * (p % q)) := by
  rw [← Nat.mul_assoc, Bool.eq_iff_iff]
  simp only [beq_iff_eq]
  exact ⟨fun h => Nat.eq_of_mul_eq_mul_right hc h, fun h => congrArg (· * c) h⟩
 rw [e1, e2]
theorem rhe_sticky (a b k : Nat) (hb : 0 < b) : rhe (2 * (a / b) + (a % b != 0).toNat) (2 ^ (k + 2)) = rhe a (b * 2 ^ (k + 1)) := by
 obtain ⟨s, hs⟩ : ∃ s, (a % b != 0).toNat = s := ⟨_, rfl⟩
 have hs1 : (s = 0 ∧ a % b = 0) ∨ (s = 1 ∧ a % b ≠ 0) := by
  by_cases h : a % b = 0
  · left; rw [h] at hs; exact ⟨hs.symm, h⟩
  · right
    have : (a % b != 0) = true := by simpa using h
    rw [this] at hs; exact ⟨hs.symm, h⟩
 rw [hs]
 have hab := Nat.div_add_mod a b
 have hlt := Nat.mod_lt a hb
 have hf : a / (b * 2 ^ (k + 1)) = a / b / 2 ^ (k + 1) := by rw [Nat.div_div_eq_div_mul]
 have hm : a % (b * 2 ^ (k + 1)) = b * (a / b % 2 ^ (k + 1)) + a % b := by
  rw [Nat.mod_mul]; omega
 generalize a / b = u at *
 generalize a % b = t at *
 have hP : 2 ^ (k + 2) = 2 * 2 ^ (k + 1) := by rw [Nat.pow_succ 2 (k + 1)]; omega
 have hP1 : 2 ^ (k + 1) = 2 * 2 ^ k := by rw [Nat.pow_succ]; omega
 have hk := Nat.two_pow_pos k
 have hu := Nat.div_add_mod u (2 ^ (k + 1))
 have hul := Nat.mod_lt u (Nat.two_pow_pos (k + 1))
 have hd2 : (2 * u + s) / 2 ^ (k + 2) = u / 2 ^ (k + 1) := by
  rw [hP, ← Nat.div_div_eq_div_mul]
  congr 1
  omega
 have hm2 : (2 * u + s) % 2 ^ (k + 2) = 2 * (u % 2 ^ (k + 1)) + s := by
  rw [hP, Nat.mod_mul]
  have : (2 * u + s) / 2 = u := by omega
  rw [this]
  omega
 unfold rhe
 rw [hd2, hm2, hf, hm]
 generalize u / 2 ^ (k + 1) = f at *
 generalize hv : u % 2 ^ (k + 1) = v at *
 rw [hP, hP1]
 generalize 2 ^ k = K at *
 clear hu hd2 hm2 hf hm hP hab
 have c1 : decide (2 * (2 * K) < 2 * (2 * v + s)) = decide (b * (2 * K) < 2 * (b * v + t)) := by
  apply decide_eq_decide.2
  have e : b * (2 * K) = 2 * (b * K) := by ac_rfl
  rw [e]
  rcases Nat.lt_trichotomy v K with h | h | h
  · have h1 : b * v + b ≤ b * K := by rw [← Nat.mul_succ]; exact Nat.mul_le_mul_left b h
    constructor
    · intro h2; omega
    · intro h2; omega
  · subst h
    constructor
    · intro h2; omega
    · intro h2; omega
  · have h1 : b * K + b ≤ b * v := by rw [← Nat.mul_succ]; exact Nat.mul_le_mul_left b h
    constructor
    · intro h2; omega
    · intro h2; omega
 have c2 : (2 * (2 * K) == 2 * (2 * v + s)) = (b * (2 * K) == 2 * (b * v + t)) := by
  rw [Bool.eq_iff_iff]
  simp only [beq_iff_eq]
  have e : b * (2 * K) = 2 * (b * K) := by ac_rfl
  rw [e]
  rcases Nat.lt_trichotomy v K with h | h | h
  · have h1 : b * v + b ≤ b * K := by rw [← Nat.mul_succ]; exact Nat.mul_le_mul_left b h
    constructor
    · intro h2; omega
    · intro h2; omega
  · subst h
    constructor
    · intro h2; omega
    · intro h2; omega
  · have h1 : b * K + b ≤ b * v := by rw [← Nat.mul_succ]; exact Nat.mul_le_mul_left b h
    constructor
    · intro h2; omega
    · intro h2; omega
 rw [c1, c2]
structure Near (r p q : Nat) : Prop where
 le : r ≤ 9218868437227405312
 hi : r < 9218868437227405312 → 2 * p ≤ (V r + V (r + 1)) * q
 hio : r < 9218868437227405312 → r % 2 = 1 → 2 * p < (V r + V (r + 1)) * q
 lo : 0 < r → (V (r - 1) + V r) * q ≤ 2 * p
 loo : 0 < r → r % 2 = 1 → (V (r - 1) + V r) * q < 2 * p
theorem V_mono {a b : Nat} (h : a ≤ b) : V a ≤ V b := by
 rcases Nat.lt_or_ge a b with h1 | h1
 · exact Nat.le_of_lt (V_strict h1)
 · have : a = b := by omega
   rw [this]; exact Nat.le_refl _
theorem Near.not_lt {r s p q : Nat} (hq : 0 < q) (h : Near r p q) (h' : Near s p q) : ¬ r < s := by
 intro hlt
 have hr : r < 9218868437227405312 := by have := h'.le; omega
 have a1 := h.hi hr
 have a2 := h'.lo (by omega)
 have m1 : V r ≤ V (s - 1) := V_mono (by omega)
 have m2 : V (r + 1) ≤ V s := V_mono (by omega)
 have m3 : (V r + V (r + 1)) * q ≤ (V (s - 1) + V s) * q := Nat.mul_le_mul_right _ (by omega)
 have heq : (V r + V (r + 1)) * q = (V (s - 1) + V s) * q := by omega
 have heq2 := Nat.eq_of_mul_eq_mul_right hq heq
 have hs : s = r + 1 := by
  have : V (r + 1) = V s := by omega
  exact (V_inj this).symm
 subst hs
 rcases Nat.mod_two_eq_zero_or_one r with h0 | h0
 · have := h'.loo (by omega) (by omega)
   omega
 · have := h.hio hr h0
   omega
theorem Near.uniq {r s p q : Nat} (hq : 0 < q) (h : Near r p q) (h' : Near s p q) : r = s := by
 have h1 := Near.not_lt hq h h'
 have h2 := Near.not_lt hq h' h
 omega
theorem Near.scale {r p q : Nat} (c : Nat) (hc : 0 < c) (h : Near r p q) : Near r (p * c) (q * c) where
 le := h.le
 hi := fun hr => by have := Nat.mul_le_mul_right c (h.hi hr); rw [← Nat.mul_assoc, ← Nat.mul_assoc]; exact this
 hio := fun hr ho => by have := Nat.mul_lt_mul_of_pos_right (h.hio hr ho) hc; rw [← Nat.mul_assoc, ← Nat.mul_assoc]; exact this
 lo := fun hr => by have := Nat.mul_le_mul_right c (h.lo hr); rw [← Nat.mul_assoc, ← Nat.mul_assoc]; exact this
 loo := fun hr ho => by have := Nat.mul_lt_mul_of_pos_right (h.loo hr ho) hc; rw [← Nat.mul_assoc, ← Nat.mul_assoc]; exact this
theorem V_at (d k : Nat) (hk : k ≤ 9007199254740992) (hd : d = 0 ∨ 4503599627370496 ≤ k) : V (d * 4503599627370496 + k) = k * 2 ^ d := by
 unfold V
 rcases Nat.lt_or_ge k 9007199254740992 with h | h
 · rcases Nat.lt_or_ge k 4503599627370496 with h1 | h1
   · have : d = 0 := by omega
     subst this
     rw [if_pos (by omega)]; simp
   · rw [if_neg (by omega)]
     have e1 : (d * 4503599627370496 + k) % 4503599627370496 = k - 4503599627370496 := by omega
     have e2 : (d * 4503599627370496 + k) / 4503599627370496 - 1 = d := by omega
     rw [e1, e2, show 4503599627370496 + (k - 4503599627370496) = k by omega]
 · have hk2 : k = 9007199254740992 := by omega
   subst hk2
   rw [if_neg (by omega)]
   have e1 : (d * 4503599627370496 + 9007199254740992) % 4503599627370496 = 0 := by omega
   have e2 : (d * 4503599627370496 + 9007199254740992) / 4503599627370496 - 1 = d + 1 := by omega
   rw [e1, e2, Nat.pow_succ]
   omega
theorem near_rhe (d p q : Nat) (hq : 0 < q) (hhi : p < 9007199254740992 * (q * 2 ^ d)) (hlo : d = 0 ∨ 4503599627370496 * (q * 2 ^ d) ≤ p) :
  Near (min (d * 4503599627370496 + rhe p (q * 2 ^ d)) 9218868437227405312) p q := by
 have hQ : 0 < q * 2 ^ d := Nat.mul_pos hq (Nat.two_pow_pos d)
 have hs := rhe_spec p (q * 2 ^ d) hQ
 have hl := rhe_le p (q * 2 ^ d)
 have hk1 : p / (q * 2 ^ d) < 9007199254740992 := by rw [Nat.div_lt_iff_lt_mul hQ]; exact hhi
 have hk2 : d = 0 ∨ 4503599627370496 ≤ p / (q * 2 ^ d) := by
  rcases hlo with h | h
  · exact .inl h
  · right; rw [Nat.le_div_iff_mul_le hQ]; exact h
 generalize rhe p (q * 2 ^ d) = k at *
 generalize p / (q * 2 ^ d) = f at *
 have hkd : d = 0 ∨ 4503599627370496 ≤ k := by omega
 have hVr := V_at d k (by omega) hkd
 obtain ⟨s1, s2, s3⟩ := hs
 have eV : V (d * 4503599627370496 + k) * q = k * (q * 2 ^ d) := by rw [hVr]; ac_rfl
 have hpar : (d * 4503599627370496 + k) % 2 = k % 2 := by omega
 have up : 2 * p ≤ (V (d * 4503599627370496 + k) + V (d * 4503599627370496 + k + 1)) * q ∧ (k % 2 = 1 → 2 * p < (V (d * 4503599627370496 + k) + V (d * 4503599627370496 + k + 1)) * q) := by
  rcases Nat.lt_or_ge k 9007199254740992 with h | h
  · have h1 := V_at d (k + 1) (by omega) (by omega)
    rw [← Nat.add_assoc] at h1
    have e : (V (d * 4503599627370496 + k) + V (d * 4503599627370496 + k + 1)) * q = (2 * k + 1) * (q * 2 ^ d) := by
     rw [hVr, h1, ← Nat.add_mul, show k + (k + 1) = 2 * k + 1 by omega]; ac_rfl
    rw [e]
    exact ⟨s1, fun ho => (s3 ho).1⟩
  · have hk : k = 9007199254740992 := by omega
    have hlt : 2 * p < (V (d * 4503599627370496 + k) + V (d * 4503599627370496 + k + 1)) * q := by
     have h1 : V (d * 4503599627370496 + k) ≤ V (d * 4503599627370496 + k + 1) := V_mono (by omega)
     have h2 := Nat.mul_le_mul_right q h1
     rw [Nat.add_mul, eV]
     rw [eV] at h2
     rw [hk] at h2 ⊢
     omega
    exact ⟨Nat.le_of_lt hlt, fun _ => hlt⟩
 have dn : 0 < d * 4503599627370496 + k → (V (d * 4503599627370496 + k - 1) + V (d * 4503599627370496 + k)) * q ≤ 2 * p ∧ (k % 2 = 1 → (V (d * 4503599627370496 + k - 1) + V (d * 4503599627370496 + k)) * q < 2 * p) := by
  intro hpos
  by_cases hc : d = 0 ∨ 4503599627370496 + 1 ≤ k
  · have hk0 : 1 ≤ k := by omega
    have h1 := V_at d (k - 1) (by omega) (by omega)
    have e0 : d * 4503599627370496 + (k - 1) = d * 4503599627370496 + k - 1 := by omega
    rw [e0] at h1
    have e : (V (d * 4503599627370496 + k - 1) + V (d * 4503599627370496 + k)) * q + q * 2 ^ d = 2 * k * (q * 2 ^ d) := by
     rw [hVr, h1, ← Nat.add_mul]
     have : (k - 1 + k) * 2 ^ d * q = (k - 1 + k) * (q * 2 ^ d) := by ac_rfl
     rw [this]
     have h2 : (k - 1 + k) * (q * 2 ^ d) + (q * 2 ^ d) = (k - 1 + k + 1) * (q * 2 ^ d) := by rw [Nat.succ_mul]
     rw [h2, show k - 1 + k + 1 = 2 * k by omega]
    refine ⟨by omega, fun ho => ?_⟩
    have := (s3 ho).2
    omega
  · have hk : k = 4503599627370496 := by omega
    have hlo2 : 4503599627370496 * (q * 2 ^ d) ≤ p := by
     rcases hlo with h | h
     · omega
     · exact h
    have hlt : (V (d * 4503599627370496 + k - 1) + V (d * 4503599627370496 + k)) * q < 2 * p := by
     have h1 : V (d * 4503599627370496 + k - 1) < V (d * 4503599627370496 + k) := V_strict (by omega)
     have h2 := Nat.mul_lt_mul_of_pos_right h1 hq
     rw [Nat.add_mul]
     rw [eV] at h2 ⊢
     rw [hk] at h2 ⊢
     omega
    exact ⟨Nat.le_of_lt hlt, fun _ => hlt⟩
 rcases Nat.lt_or_ge 9218868437227405312 (d * 4503599627370496 + k) with hbig | hsm
 · -- beyond
   rw [Nat.min_eq_right (by omega)]
   have hd : 2046 ≤ d := by omega
   have hlo2 : 4503599627370496 * (q * 2 ^ d) ≤ p := by
    rcases hlo with h | h
    · omega
    · exact h
   obtain ⟨N, hN⟩ : ∃ N : Nat, N = 2046 := ⟨_, rfl⟩
   have hpw : 2 ^ N ≤ 2 ^ d := Nat.pow_le_pow_right (by decide) (by omega)
   have hV : V 9218868437227405312 = 4503599627370496 * 2 ^ N := by
    have := V_at N 4503599627370496 (by omega) (by omega)
    rwa [show N * 4503599627370496 + 4503599627370496 = 9218868437227405312 by omega] at this
   have hVl : V (9218868437227405312 - 1) < V 9218868437227405312 := V_strict (by omega)
   have hle : V 9218868437227405312 * q ≤ p := by
    rw [hV]
    refine Nat.le_trans ?_ hlo2
    rw [Nat.mul_assoc, Nat.mul_comm q]
    exact Nat.mul_le_mul_left _ (Nat.mul_le_mul_right _ hpw)
   have h2 := Nat.mul_lt_mul_of_pos_right hVl hq
   refine ⟨Nat.le_refl _, fun h => absurd h (by omega), fun h => absurd h (by omega), fun _ => ?_, fun _ h => absurd h (by omega)⟩
   rw [Nat.add_mul]
   generalize V 9218868437227405312 * q = X at *
   generalize V (9218868437227405312 - 1) * q = Y at *
   omega
 · rw [Nat.min_eq_left hsm]
   exact ⟨hsm, fun _ => up.1, fun _ ho => up.2 (by omega), fun h0 => (dn h0).1, fun h0 ho => (dn h0).2 (by omega)⟩
theorem cut_rhe (neg : Bool) (n d : Nat) (hn : n ≠ 0) : Ieee.Toward.even.cut neg n d = rhe n (2 ^ d) := by
 rcases Nat.lt_or_ge (n.log2 + 2) d with h | h
 · have h1 := Nat.lt_log2_self (n := n)
   have h2 : 2 ^ (n.log2 + 2) = 2 * 2 ^ (n.log2 + 1) := by rw [Nat.pow_succ 2 (n.log2 + 1)]; omega
   have h3 : 2 ^ (n.log2 + 2) ≤ 2 ^ d := Nat.pow_le_pow_right (by decide) (by omega)
   unfold Ieee.Toward.cut rhe
   simp only [Nat.min_eq_right (Nat.le_of_lt h), Nat.shiftLeft_eq, Nat.one_mul]
   rw [Nat.div_eq_of_lt (by omega : n < 2 ^ (n.log2 + 2)), Nat.mod_eq_of_lt (by omega : n < 2 ^ (n.log2 + 2)), Nat.div_eq_of_lt (by omega : n < 2 ^ d), Nat.mod_eq_of_lt (by omega : n < 2 ^ d)]
   have d1 : decide (2 ^ (n.log2 + 2) < 2 * n) = false := by simp; omega
   have d2 : decide (2 ^ d < 2 * n) = false := by simp; omega
   rw [d1, d2]
   simp
 · rw [cut_even neg n d h]
   rfl
theorem nearest_near (neg : Bool) (m : Nat) (hm : m ≠ 0) (e : Int) (a b : Nat) (h : e + 1074 = (a : Int) - (b : Int)) : ∃ r, Ieee.double.nearest neg m e = Ieee.double.word neg r ∧ Near r (m * 2 ^ a) (2 ^ b) ∧
  ∃ d, r = min (d * 4503599627370496 + rhe (m * 2 ^ a) (2 ^ b * 2 ^ d)) 9218868437227405312 ∧ (d : Int) = max (e + m.log2 - 52) (-1074) + 1074 := by
 unfold Ieee.Format.nearest
 rw [if_neg hm]
 have h1 := Nat.log2_self_le hm
 have h2 := Nat.lt_log2_self (n := m)
 simp only [least, fracB, binade_, infR]
 generalize hL : m.log2 = L at *
 obtain ⟨d, hd⟩ : ∃ d : Nat, (d : Int) = max (e + (L : Int) - 52) (-1074) + 1074 := ⟨(max (e + (L : Int) - 52) (-1074) + 1074).toNat, by omega⟩
 have hmax : max (e + (L : Int) - ((52 : Nat) : Int)) (-1074) = (d : Int) - 1074 := by
  rw [show ((52 : Nat) : Int) = 52 by rfl]; omega
 rw [hmax]
 have e1 : ((d : Int) - 1074 - -1074).toNat = d := by omega
 have e2 : (e - ((d : Int) - 1074)).toNat = a - (b + d) := by omega
 have e3 : ((d : Int) - 1074 - e).toNat = b + d - a := by omega
 rw [e1, e2, e3, Nat.shiftLeft_eq, cut_rhe _ _ _ (by have := Nat.mul_pos (Nat.pos_of_ne_zero hm) (Nat.two_pow_pos (a - (b + d))); omega)]
 have e4 : rhe (m * 2 ^ (a - (b + d))) (2 ^ (b + d - a)) = rhe (m * 2 ^ a) (2 ^ b * 2 ^ d) := by
  rw [← Nat.pow_add]
  rcases Nat.le_total a (b + d) with hc | hc
  · rw [show a - (b + d) = 0 by omega, ← rhe_scale _ _ (2 ^ a) (Nat.two_pow_pos a), ← Nat.pow_add, show b + d - a + a = b + d by omega]; simp
  · rw [show b + d - a = 0 by omega, ← rhe_scale _ _ (2 ^ (b + d)) (Nat.two_pow_pos _), Nat.mul_assoc, ← Nat.pow_add, show a - (b + d) + (b + d) = a by omega]; simp
 rw [e4]
 have hp : 9007199254740992 * (2 ^ b * 2 ^ d) = 2 ^ (53 + b + d) := by rw [show (9007199254740992 : Nat) = 2 ^ 53 by decide, ← Nat.pow_add, ← Nat.pow_add]; congr 1; omega
 have hp2 : 4503599627370496 * (2 ^ b * 2 ^ d) = 2 ^ (52 + b + d) := by rw [show (4503599627370496 : Nat) = 2 ^ 52 by decide, ← Nat.pow_add, ← Nat.pow_add]; congr 1; omega
 refine ⟨_, rfl, near_rhe d (m * 2 ^ a) (2 ^ b) (Nat.two_pow_pos b) ?_ ?_, d, rfl, hd⟩
 · rw [hp]
   have : m * 2 ^ a < 2 ^ (L + 1) * 2 ^ a := Nat.mul_lt_mul_of_pos_right h2 (Nat.two_pow_pos a)
   rw [← Nat.pow_add] at this
   exact Nat.lt_of_lt_of_le this (Nat.pow_le_pow_right (by decide) (by omega))
 · rw [hp2]
   by_cases hd0 : d = 0
   · exact .inl hd0
   · right
     have : 2 ^ L * 2 ^ a ≤ m * 2 ^ a := Nat.mul_le_mul_right _ h1
     rw [← Nat.pow_add] at this
     exact Nat.le_trans (Nat.pow_le_pow_right (by decide) (by omega)) this
def spM (b : Nat) : Nat := if b % 9223372036854775808 / 4503599627370496 = 0 then b % 4503599627370496 else b % 4503599627370496 + 4503599627370496
def spE (b : Nat) : Int := if b % 9223372036854775808 / 4503599627370496 = 0 then -1074 else ((b % 9223372036854775808 / 4503599627370496 : Nat) : Int) - 1075
def rdD (p q : Nat) : Nat := if p / q < 9007199254740992 then 0 else (p / q).log2 - 52
def rd (p q : Nat) : Nat := min (rdD p q * 4503599627370496 + rhe p (q * 2 ^ rdD p q)) 9218868437227405312
theorem rd_near (p q : Nat) (hq : 0 < q) : Near (rd p q) p q := by
 unfold rd
 refine near_rhe (rdD p q) p q hq ?_ ?_
 · unfold rdD
   split
   · rename_i h
     rw [Nat.pow_zero, Nat.mul_one]
     exact (Nat.div_lt_iff_lt_mul hq).1 h
   · rename_i h
     have h2 := Nat.lt_log2_self (n := p / q)
     have h0 : p / q ≠ 0 := by omega
     have hL : 53 ≤ (p / q).log2 := by rw [Nat.le_log2 h0]; omega
     have e : 9007199254740992 * (q * 2 ^ ((p / q).log2 - 52)) = 2 ^ ((p / q).log2 + 1) * q := by
      rw [show (9007199254740992 : Nat) = 2 ^ 53 by decide, Nat.mul_comm q, ← Nat.mul_assoc, ← Nat.pow_add, show 53 + ((p / q).log2 - 52) = (p / q).log2 + 1 by omega]
     rw [e]
     exact (Nat.div_lt_iff_lt_mul hq).1 h2
 · unfold rdD
   split
   · exact .inl rfl
   · rename_i h
     right
     have h0 : p / q ≠ 0 := by omega
     have h1 := Nat.log2_self_le h0
     have hL : 53 ≤ (p / q).log2 := by rw [Nat.le_log2 h0]; omega
     have e : 4503599627370496 * (q * 2 ^ ((p / q).log2 - 52)) = 2 ^ ((p / q).log2) * q := by
      rw [show (4503599627370496 : Nat) = 2 ^ 52 by decide, Nat.mul_comm q, ← Nat.mul_assoc, ← Nat.pow_add, show 52 + ((p / q).log2 - 52) = (p / q).log2 by omega]
     rw [e]
     exact (Nat.le_div_iff_mul_le hq).1 h1
theorem Near.rd {r p q : Nat} (hq : 0 < q) (h : Near r p q) : r = rd p q := h.uniq hq (rd_near p q hq)
theorem rd_scale (p q c : Nat) (hq : 0 < q) (hc : 0 < c) : rd (p * c) (q * c) = rd p q := (((rd_near p q hq).scale c hc).rd (Nat.mul_pos hq hc)).symm
theorem rd_le (p q : Nat) : rd p q ≤ 9218868437227405312 := by unfold rd; omega
theorem rd_zero (q : Nat) : rd 0 q = 0 := by
 unfold rd rdD rhe
 simp
theorem near_V {r : Nat} (h : r < 9218868437227405312) : Near r (V r) 1 where
 le := by omega
 hi := fun _ => by have := V_strict (show r < r + 1 by omega); omega
 hio := fun _ _ => by have := V_strict (show r < r + 1 by omega); omega
 lo := fun h0 => by have := V_strict (show r - 1 < r by omega); omega
 loo := fun h0 _ => by have := V_strict (show r - 1 < r by omega); omega
theorem rd_V {r : Nat} (h : r < 9218868437227405312) : rd (V r) 1 = r := ((near_V h).rd (by decide)).symm
def nr (m : Nat) (e : Int) : Nat := rd (m * 2 ^ (e + 1074).toNat) (2 ^ (-(e + 1074)).toNat)
theorem nr_eq (m : Nat) (e : Int) (a b : Nat) (h : e + 1074 = (a : Int) - (b : Int)) : nr m e = rd (m * 2 ^ a) (2 ^ b) := by
 unfold nr
 obtain ⟨c, hc⟩ : ∃ c, a = (e + 1074).toNat + c := ⟨a - (e + 1074).toNat, by omega⟩
 have hb : b = (-(e + 1074)).toNat + c := by omega
 rw [hc, hb, Nat.pow_add, Nat.pow_add, ← Nat.mul_assoc, rd_scale _ _ _ (Nat.two_pow_pos _) (Nat.two_pow_pos _)]
theorem nearest_nr (neg : Bool) (m : Nat) (e : Int) : Ieee.double.nearest neg m e = Ieee.double.word neg (nr m e) := by
 by_cases hm : m = 0
 · subst hm
   unfold Ieee.Format.nearest nr
   rw [if_pos rfl, Nat.zero_mul, rd_zero]
 · obtain ⟨r, h1, h2, _⟩ := nearest_near neg m hm e (e + 1074).toNat (-(e + 1074)).toNat (by omega)
   rw [h1, h2.rd (Nat.two_pow_pos _)]
   rfl
def spK (b : Nat) : Nat := b % 9223372036854775808 / 4503599627370496 - 1
theorem spE_k (b : Nat) : spE b = (spK b : Int) - 1074 := by
 unfold spE spK
 split <;> omega
theorem sp_V (b : Nat) : spM b * 2 ^ spK b = V (b % 9223372036854775808) := by
 unfold spM spK V
 have hm : b % 4503599627370496 = b % 9223372036854775808 % 4503599627370496 := by omega
 split
 · rename_i h
   rw [if_pos (by omega), h, hm]
   simp
   omega
 · rename_i h
   rw [if_neg (by omega), hm, Nat.add_comm]
theorem spM_lt (b : Nat) : spM b < 9007199254740992 := by
 unfold spM
 have : b % 4503599627370496 < 4503599627370496 := Nat.mod_lt _ (by decide)
 split <;> omega
theorem sgn_is (b : Nat) (hb : b < 18446744073709551616) : (b / 9223372036854775808 % 2 == 1) = decide (9223372036854775808 ≤ b) := by
 by_cases h : 9223372036854775808 ≤ b
 · rw [decide_eq_true h]; simp; omega
 · rw [decide_eq_false h]; simp; omega
theorem read_fin (b : Nat) (hb : b < 18446744073709551616) (h : b % 9223372036854775808 < 9218868437227405312) : Ieee.double.read b = .number (decide (9223372036854775808 ≤ b)) (spM b) (spE b) := by
 unfold Ieee.Format.read
 simp only [signW, binade_, infR, sgn_is b hb, least]
 by_cases h1 : b % 9223372036854775808 < 4503599627370496
 · rw [if_pos h1]
   unfold spM spE
   rw [if_pos (by omega), if_pos (by omega)]
   congr 1
   omega
 · rw [if_neg h1, if_pos h]
   unfold spM spE
   rw [if_neg (by omega), if_neg (by omega)]
   congr 1
   · omega
   · omega
theorem nr_quot (m n : Nat) (hm : m ≠ 0) (hn : n ≠ 0) (hm2 : m < 9007199254740992) (i j : Int) (a b : Nat) (h : i - j + 1074 = (a : Int) - (b : Int)) :
  nr (2 * ((m <<< (54 + n.log2 - m.log2)) / n) + ((m <<< (54 + n.log2 - m.log2)) % n != 0).toNat) (i - j - (54 + n.log2 - m.log2 : Nat) - 1) = rd (m * 2 ^ a) (n * 2 ^ b) := by
 have hl : m.log2 ≤ 52 := by
  have : m.log2 < 53 := by rw [Nat.log2_lt hm]; exact hm2
  omega
 have m1 := Nat.log2_self_le hm
 have m2 := Nat.lt_log2_self (n := m)
 have n1 := Nat.log2_self_le hn
 have n2 := Nat.lt_log2_self (n := n)
 have hnp : 0 < n := Nat.pos_of_ne_zero hn
 rw [Nat.shiftLeft_eq]
 generalize hmo : 54 + n.log2 - m.log2 = more at *
 generalize hD : m * 2 ^ more = D at *
 have hDlo : 2 ^ (n.log2 + 54) ≤ D := by
  have : 2 ^ m.log2 * 2 ^ more ≤ D := by rw [← hD]; exact Nat.mul_le_mul_right _ m1
  rw [← Nat.pow_add] at this
  exact Nat.le_trans (Nat.pow_le_pow_right (by decide) (by omega)) this
 have hq53 : 2 ^ 53 ≤ D / n := by
  rw [Nat.le_div_iff_mul_le hnp]
  have : 2 ^ 53 * n ≤ 2 ^ 53 * 2 ^ (n.log2 + 1) := Nat.mul_le_mul_left _ (Nat.le_of_lt n2)
  rw [← Nat.pow_add] at this
  exact Nat.le_trans this (by rw [show 53 + (n.log2 + 1) = n.log2 + 54 by omega]; exact hDlo)
 obtain ⟨s, hs⟩ : ∃ s, (D % n != 0).toNat = s := ⟨_, rfl⟩
 have hs1 : s ≤ 1 := by rw [← hs]; exact Bool.toNat_le _
 obtain ⟨t, ht⟩ : ∃ t, 2 * (D / n) + s = t := ⟨_, rfl⟩
 have ht0 : t ≠ 0 := by
  have := Nat.two_pow_pos 53; omega
 obtain ⟨g, hg⟩ : ∃ g : Int, i - j - (more : Int) - 1 = g := ⟨_, rfl⟩
 rw [hs, ht, hg]
 obtain ⟨r, e1, e2, d, e3, e4⟩ := nearest_near false t ht0 g (g + 1074).toNat (-(g + 1074)).toNat (by omega)
 have hr : nr t g = r := ((e2.rd (Nat.two_pow_pos _)).symm : _)
 rw [hr]
 have tL : 54 ≤ t.log2 := by
  rw [Nat.le_log2 ht0]
  have : 2 ^ 54 = 2 * 2 ^ 53 := by decide
  omega
 have t1 := Nat.log2_self_le ht0
 have t2 := Nat.lt_log2_self (n := t)
 generalize hL : t.log2 = L at *
 obtain ⟨k, hk⟩ : ∃ k : Nat, (d : Int) - 1074 - g = (k : Int) + 2 := ⟨((d : Int) - 1074 - g - 2).toNat, by omega⟩
 have x1 : rhe (t * 2 ^ (g + 1074).toNat) (2 ^ (-(g + 1074)).toNat * 2 ^ d) = rhe t (2 ^ (k + 2)) := by
  rw [← Nat.pow_add, show (-(g + 1074)).toNat + d = k + 2 + (g + 1074).toNat by omega, Nat.pow_add, rhe_scale _ _ _ (Nat.two_pow_pos _)]
 have x2 : rhe t (2 ^ (k + 2)) = rhe D (n * 2 ^ (k + 1)) := by
  rw [← ht, ← hs]; exact rhe_sticky D n k hnp
 have x3 : rhe D (n * 2 ^ (k + 1)) = rhe (m * 2 ^ a) (n * 2 ^ b * 2 ^ d) := by
  rw [← hD]
  have hx : more + (b + d) = a + (k + 1) := by omega
  rw [← rhe_scale (m * 2 ^ more) (n * 2 ^ (k + 1)) (2 ^ (b + d)) (Nat.two_pow_pos _), ← rhe_scale (m * 2 ^ a) (n * 2 ^ b * 2 ^ d) (2 ^ (k + 1)) (Nat.two_pow_pos _)]
  congr 1
  · rw [Nat.mul_assoc, Nat.mul_assoc, ← Nat.pow_add, ← Nat.pow_add, hx]
  · rw [Nat.mul_assoc, Nat.mul_assoc, Nat.mul_assoc, ← Nat.pow_add, ← Nat.pow_add, ← Nat.pow_add, show k + 1 + (b + d) = b + (d + (k + 1)) by omega]
 rw [x1, x2, x3] at e3
 rw [e3]
 have hDq := Nat.div_add_mod D n
 have hDm := Nat.mod_lt D hnp
 have hu1 : D < 2 ^ L * n := by
  have : D / n < 2 ^ L := by rw [Nat.pow_succ] at t2; omega
  exact (Nat.div_lt_iff_lt_mul hnp).1 this
 have hu2 : 2 ^ (L - 1) * n ≤ D := by
  have : 2 ^ (L - 1) ≤ D / n := by
   have : 2 ^ L = 2 * 2 ^ (L - 1) := by rw [← Nat.pow_succ']; congr 1; omega
   omega
  exact (Nat.le_div_iff_mul_le hnp).1 this
 refine (near_rhe d (m * 2 ^ a) (n * 2 ^ b) (Nat.mul_pos hnp (Nat.two_pow_pos b)) ?_ ?_).rd (Nat.mul_pos hnp (Nat.two_pow_pos b))
 · -- m 2^a < 2^53 n 2^b 2^d
   have c1 : m * 2 ^ a * 2 ^ more < 9007199254740992 * (n * 2 ^ b * 2 ^ d) * 2 ^ more := by
    rw [show m * 2 ^ a * 2 ^ more = D * 2 ^ a by rw [← hD]; ac_rfl]
    have := Nat.mul_lt_mul_of_pos_right hu1 (Nat.two_pow_pos a)
    refine Nat.lt_of_lt_of_le this ?_
    have e5 : 9007199254740992 * (n * 2 ^ b * 2 ^ d) * 2 ^ more = 2 ^ (53 + b + d + more) * n := by
     rw [show (9007199254740992 : Nat) = 2 ^ 53 by decide, Nat.pow_add, Nat.pow_add, Nat.pow_add]; ac_rfl
    rw [e5, show 2 ^ L * n * 2 ^ a = 2 ^ (L + a) * n by rw [Nat.pow_add]; ac_rfl]
    exact Nat.mul_le_mul_right _ (Nat.pow_le_pow_right (by decide) (by omega))
   exact Nat.lt_of_mul_lt_mul_right c1
 · by_cases hd0 : d = 0
   · exact .inl hd0
   · right
     have c1 : 4503599627370496 * (n * 2 ^ b * 2 ^ d) * 2 ^ more ≤ m * 2 ^ a * 2 ^ more := by
      rw [show m * 2 ^ a * 2 ^ more = D * 2 ^ a by rw [← hD]; ac_rfl]
      have := Nat.mul_le_mul_right (2 ^ a) hu2
      refine Nat.le_trans ?_ this
      have e5 : 4503599627370496 * (n * 2 ^ b * 2 ^ d) * 2 ^ more = 2 ^ (52 + b + d + more) * n := by
       rw [show (4503599627370496 : Nat) = 2 ^ 52 by decide, Nat.pow_add, Nat.pow_add, Nat.pow_add]; ac_rfl
      rw [e5, show 2 ^ (L - 1) * n * 2 ^ a = 2 ^ (L - 1 + a) * n by rw [Nat.pow_add]; ac_rfl]
      exact Nat.mul_le_mul_right _ (Nat.pow_le_pow_right (by decide) (by omega))
     exact Nat.le_of_mul_le_mul_right c1 (Nat.two_pow_pos more)
def k1074 : Nat := 1074
theorem k1074_eq : k1074 = 1074 := rfl
def k1021 : Nat := 1021
theorem k1021_eq : k1021 = 1021 := rfl
theorem side (p q g K : Nat) : ∃ c, 0 < c ∧ p * 2 ^ (K - g) * c = p * 2 ^ K ∧ q * 2 ^ (g - K) * c = q * 2 ^ g := by
 refine ⟨2 ^ min g K, Nat.two_pow_pos _, ?_, ?_⟩
 · rw [Nat.mul_assoc, ← Nat.pow_add, show K - g + min g K = K by omega]
 · rw [Nat.mul_assoc, ← Nat.pow_add, show g - K + min g K = g by omega]
structure EInv (p q G g : Nat) : Prop where
 le : g ≤ G
 lo : g = 0 ∨ 4503599627370496 * (q * 2 ^ g) ≤ p * 2 ^ k1074
theorem EInv.begin_ {p q bp bq : Nat} (hp : p ≠ 0) (hq : q ≠ 0) (h1 : BitsOf p bp) (h2 : BitsOf q bq) (g : Nat) (hg : (g = 0 ∧ (bp : Int) - bq - 54 < -1074) ∨ (g : Int) = (bp : Int) - bq - 54 + 1074) : EInv p q (bp + k1021) g where
 le := by
  have := (h2.2 hq).1
  have := k1021_eq
  omega
 lo := by
  rcases hg with ⟨h, _⟩ | hg
  · exact .inl h
  · right
    have hk := k1074_eq
    obtain ⟨b1, b2⟩ := h1.2 hp
    have b3 := h2.1
    have e1 : 4503599627370496 * (q * 2 ^ g) ≤ 2 ^ bq * 2 ^ (52 + g) := by
     rw [show (4503599627370496 : Nat) = 2 ^ 52 by decide, Nat.pow_add 2 52 g]
     rw [show 2 ^ 52 * (q * 2 ^ g) = q * (2 ^ 52 * 2 ^ g) by ac_rfl]
     exact Nat.mul_le_mul_right _ (Nat.le_of_lt b3)
    have e2 : 2 ^ (bp - 1) * 2 ^ k1074 ≤ p * 2 ^ k1074 := Nat.mul_le_mul_right _ b2
    rw [← Nat.pow_add] at e1 e2
    have e3 : 2 ^ (bq + (52 + g)) ≤ 2 ^ (bp - 1 + k1074) := Nat.pow_le_pow_right (by decide) (by omega)
    exact Nat.le_trans e1 (Nat.le_trans e3 e2)
structure MInv (a b j m : Nat) : Prop where
 lo : m * b ≤ a
 hi : a < (m + 2 ^ j) * b
 le : m + 2 ^ j ≤ 9007199254740992
theorem MInv.no {a b j m : Nat} (h : MInv a b (j + 1) m) (hc : ¬ (m + 2 ^ j) * b ≤ a) : MInv a b j m where
 lo := h.lo
 hi := by omega
 le := by have := h.le; rw [Nat.pow_succ] at this; omega
theorem wrapO {G O : Nat} (hG : G ≤ 2046) (hO : G * 4503599627370496 = O) : IntKind.u64.wrap ((G : Int) * 4503599627370496) = (O : Int) := by
 have e : (G : Int) * 4503599627370496 = (O : Int) := by omega
 rw [e]; simp only [IntKind.wrap, IntKind.bits, IntKind.signed]; simp; omega
def tf (a : Int) : Nat := Ieee.double.word (decide (a < 0)) (rungI a.natAbs)
theorem floatOfInt_tf (a : Int) (h0 : -9223372036854775808 ≤ a) (h1 : a ≤ 9223372036854775807) : floatOfInt .f64 a = tf a := by
 show Ieee.double.nearest (decide (a < 0)) a.natAbs 0 = _
 rw [nearest_int _ _ (by omega)]; rfl
def R (a : Int) : Int := sgn (decide (a < 0)) (rungI a.natAbs)
def tr (b : Nat) : Nat := spM b * 2 ^ (spE b).toNat / 2 ^ (-spE b).toNat
end Go.Proofs.YtacdfjlncfidgaaGreatDoor
