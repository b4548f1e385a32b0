/- emendref01.Round. -/
import Derived.Test.YtclbmmiedihepaaGreatDoorQF
import Derived.Test.YtclbmmiedihepaaGreatDoorQG
import Derived.Deep.DeepCutAuto
namespace Go.Proofs.YtclbmmiedihepaaGreatDoor
open Go.RowKit
set_option linter.unusedVariables false
set_option linter.unusedSimpArgs false
/-- The units of the least place in one. -/
def k1074 : Nat := 1074
theorem k1074_eq : k1074 = 1074 := rfl
def k1021 : Nat := 1021
theorem k1021_eq : k1021 = 1021 := rfl

theorem len_up (n k L : Nat) (h : (dg16 n).length ≤ L) : (dg16 (n * 2 ^ k)).length ≤ L + k / 16 + 1 := by
 refine dg16_len _ _ ?_
 have h1 := dg16_lt n
 have h2 : (65536 : Nat) ^ (dg16 n).length ≤ 65536 ^ L := Nat.pow_le_pow_right (by decide) h
 have h3 : (2 : Nat) ^ k < 65536 ^ (k / 16 + 1) := by
  rw [show (65536 : Nat) = 2 ^ 16 by decide, ← Nat.pow_mul]
  exact Nat.pow_lt_pow_right (by decide) (by omega)
 rw [Nat.add_assoc, Nat.pow_add]
 exact Nat.mul_lt_mul_of_lt_of_lt (by omega) h3
/-- The two sides of a test, told by the same powers. -/
theorem side (p q g K : Nat) : ∃ c, 0 < c ∧ p * 2 ^ (K - g) * c = p * 2 ^ K ∧ q * 2 ^ (g - K) * c = q * 2 ^ g := by
 refine ⟨2 ^ min g K, Nat.two_pow_pos _, ?_, ?_⟩
 · rw [Nat.mul_assoc, ← Nat.pow_add, show K - g + min g K = K by omega]
 · rw [Nat.mul_assoc, ← Nat.pow_add, show g - K + min g K = g by omega]
theorem side_lt (p q g K : Nat) : p * 2 ^ (K - g) < q * 2 ^ (g - K) ↔ p * 2 ^ K < q * 2 ^ g := by
 obtain ⟨c, hc, e1, e2⟩ := side p q g K
 rw [← e1, ← e2]
 exact (Nat.mul_lt_mul_right hc).symm
theorem side_rhe (p q g K : Nat) : rhe (p * 2 ^ (K - g)) (q * 2 ^ (g - K)) = rhe (p * 2 ^ K) (q * 2 ^ g) := by
 obtain ⟨c, hc, e1, e2⟩ := side p q g K
 rw [← e1, ← e2, rhe_scale _ _ _ hc]

theorem len_mul (n m : Nat) : (dg16 (n * m)).length ≤ (dg16 n).length + (dg16 m).length := by
 refine dg16_len _ _ ?_
 rw [Nat.pow_add]
 exact Nat.mul_lt_mul_of_lt_of_lt (dg16_lt n) (dg16_lt m)
theorem len_le {n m : Nat} (h : n ≤ m) : (dg16 n).length ≤ (dg16 m).length := by
 rcases Nat.lt_or_ge (dg16 m).length (dg16 n).length with h1 | h1
 · have := len_lt h1; omega
 · exact h1
/-- As far as the power has been raised. -/
structure EInv (p q G g : Nat) : Prop where
 le : g ≤ G
 lo : g = 0 ∨ 4503599627370496 * (q * 2 ^ g) ≤ p * 2 ^ k1074
theorem EInv.next {p q G g : Nat} (h : EInv p q G g) (hc : ¬ p * 2 ^ (k1021 - g) < q * 2 ^ (g - k1021)) (hG : ∀ g, G ≤ g → p * 2 ^ (k1021 - g) < q * 2 ^ (g - k1021)) : EInv p q G (g + 1) where
 le := by
  rcases Nat.lt_or_ge g G with h1 | h1
  · exact h1
  · exact absurd (hG g h1) hc
 lo := by
  right
  rw [side_lt] at hc
  have e : k1074 = k1021 + 53 := rfl
  rw [e, Nat.pow_add 2 k1021 53, Nat.pow_succ, ← Nat.mul_assoc p]
  generalize p * 2 ^ k1021 = P at *
  rw [← Nat.mul_assoc q]
  generalize q * 2 ^ g = Q at *
  rw [show (2 : Nat) ^ 53 = 9007199254740992 by decide]
  omega
theorem EInv.begin_ {p q bp bq : Nat} (hp : p ≠ 0) (hq : q ≠ 0) (h1 : BitsOf p bp) (h2 : BitsOf q bq) (g : Nat) (hg : (g = 0 ∧ (bp : Int) - bq - 54 < -1074) ∨ (g : Int) = (bp : Int) - bq - 54 + 1074) : EInv p q (bp + k1021) g where
 le := by
  have := (h2.2 hq).1
  have := k1021_eq
  omega
 lo := by
  rcases hg with ⟨h, _⟩ | hg
  · exact .inl h
  · right
    have hk := k1074_eq
    obtain ⟨b1, b2⟩ := h1.2 hp
    have b3 := h2.1
    have e1 : 4503599627370496 * (q * 2 ^ g) ≤ 2 ^ bq * 2 ^ (52 + g) := by
     rw [show (4503599627370496 : Nat) = 2 ^ 52 by decide, Nat.pow_add 2 52 g]
     rw [show 2 ^ 52 * (q * 2 ^ g) = q * (2 ^ 52 * 2 ^ g) by ac_rfl]
     exact Nat.mul_le_mul_right _ (Nat.le_of_lt b3)
    have e2 : 2 ^ (bp - 1) * 2 ^ k1074 ≤ p * 2 ^ k1074 := Nat.mul_le_mul_right _ b2
    rw [← Nat.pow_add] at e1 e2
    have e3 : 2 ^ (bq + (52 + g)) ≤ 2 ^ (bp - 1 + k1074) := Nat.pow_le_pow_right (by decide) (by omega)
    exact Nat.le_trans e1 (Nat.le_trans e3 e2)
theorem exit_ {p q bp : Nat} (hq : q ≠ 0) (h1 : BitsOf p bp) : ∀ g, bp + k1021 ≤ g → p * 2 ^ (k1021 - g) < q * 2 ^ (g - k1021) := by
 intro g hg
 rw [side_lt]
 have a1 : p * 2 ^ k1021 < 2 ^ bp * 2 ^ k1021 := Nat.mul_lt_mul_of_pos_right h1.1 (Nat.two_pow_pos _)
 rw [← Nat.pow_add] at a1
 have a2 : 2 ^ (bp + k1021) ≤ 2 ^ g := Nat.pow_le_pow_right (by decide) hg
 have a3 : 1 * 2 ^ g ≤ q * 2 ^ g := Nat.mul_le_mul_right _ (by omega)
 omega

theorem bits_small {n b L : Nat} (h : BitsOf n b) (hn : n ≠ 0) (hl : (dg16 n).length ≤ L) : b ≤ 16 * L := by
 have h1 := dg16_lt n
 have h2 := (h.2 hn).2
 have h3 : (65536 : Nat) ^ (dg16 n).length ≤ 65536 ^ L := Nat.pow_le_pow_right (by decide) hl
 rw [show (65536 : Nat) = 2 ^ 16 by decide, ← Nat.pow_mul, ← Nat.pow_mul] at h3
 rw [show (65536 : Nat) = 2 ^ 16 by decide, ← Nat.pow_mul] at h1
 rcases Nat.lt_or_ge (16 * L) b with h4 | h4
 · have h5 : 2 ^ (16 * L) ≤ 2 ^ (b - 1) := Nat.pow_le_pow_right (by decide) (by omega)
   omega
 · exact h4
/-- The digits found so far. -/
structure MInv (a b j m : Nat) : Prop where
 lo : m * b ≤ a
 hi : a < (m + 2 ^ j) * b
 le : m + 2 ^ j ≤ 9007199254740992
theorem MInv.yes {a b j m : Nat} (h : MInv a b (j + 1) m) (hc : (m + 2 ^ j) * b ≤ a) : MInv a b j (m + 2 ^ j) where
 lo := hc
 hi := by have := h.hi; rw [Nat.pow_succ] at this; rw [show m + 2 ^ j + 2 ^ j = m + 2 ^ j * 2 by omega]; exact this
 le := by have := h.le; rw [Nat.pow_succ] at this; omega
theorem MInv.no {a b j m : Nat} (h : MInv a b (j + 1) m) (hc : ¬ (m + 2 ^ j) * b ≤ a) : MInv a b j m where
 lo := h.lo
 hi := by omega
 le := by have := h.le; rw [Nat.pow_succ] at this; omega

/-- What comes of m, the quotient, and of what is left. -/
theorem rhe_up {a b m : Nat} (hb : 0 < b) (h : MInv a b 0 m) : (a - m * b) * 2 ^ 1 < b → rhe a b = m := by
 intro h2
 have hm : a / b = m := by
  rw [Nat.div_eq_iff hb]
  have h1 := h.lo; have h3 := h.hi
  rw [Nat.pow_zero, Nat.succ_mul] at h3
  omega
 have hr : a % b = a - m * b := by
  have := Nat.div_add_mod a b
  rw [hm, Nat.mul_comm] at this; omega
 unfold rhe
 rw [hm, hr, decide_eq_false (by omega)]
 have : (b == 2 * (a - m * b)) = false := by simp; omega
 rw [this]; simp
theorem rhe_tie {a b m : Nat} (hb : 0 < b) (h : MInv a b 0 m) : (a - m * b) * 2 ^ 1 = b → rhe a b = if m % 2 = 1 then m + 1 else m := by
 intro h2
 have hm : a / b = m := by
  rw [Nat.div_eq_iff hb]
  have h1 := h.lo; have h3 := h.hi
  rw [Nat.pow_zero, Nat.succ_mul] at h3
  omega
 have hr : a % b = a - m * b := by
  have := Nat.div_add_mod a b
  rw [hm, Nat.mul_comm] at this; omega
 unfold rhe
 rw [hm, hr, decide_eq_false (by omega)]
 have : (b == 2 * (a - m * b)) = true := by simp; omega
 rw [this]
 by_cases h5 : m % 2 = 1
 · rw [if_pos h5, h5]; rfl
 · rw [if_neg h5, show m % 2 = 0 by omega]; rfl
theorem rhe_over {a b m : Nat} (hb : 0 < b) (h : MInv a b 0 m) : b < (a - m * b) * 2 ^ 1 → rhe a b = m + 1 := by
 intro h2
 have hm : a / b = m := by
  rw [Nat.div_eq_iff hb]
  have h1 := h.lo; have h3 := h.hi
  rw [Nat.pow_zero, Nat.succ_mul] at h3
  omega
 have hr : a % b = a - m * b := by
  have := Nat.div_add_mod a b
  rw [hm, Nat.mul_comm] at this; omega
 unfold rhe
 rw [hm, hr, decide_eq_true (by omega)]
 rfl

theorem cmp_dn {n m : Nat} (h : n < m) : cmpI n m = -1 := by unfold cmpI; rw [if_pos h]
theorem cmp_up {n m : Nat} (h : ¬ n < m) : ∃ V, cmpI n m = V ∧ ¬ V < 0 ∧ (¬ n ≤ m → ¬ V ≤ 0) ∧ (n ≤ m → V ≤ 0) := by
 refine ⟨_, rfl, ?_⟩
 unfold cmpI
 rw [if_neg h]
 by_cases h2 : n = m
 · rw [if_pos h2]; exact ⟨by decide, fun h3 => by omega, fun _ => by decide⟩
 · rw [if_neg h2]; exact ⟨by decide, fun _ => by decide, fun h3 => by omega⟩
theorem cmp_le (n m : Nat) : ∃ V, cmpI n m = V ∧ (n ≤ m → V ≤ 0) ∧ (¬ n ≤ m → ¬ V ≤ 0) := by
 refine ⟨_, rfl, ?_⟩
 unfold cmpI
 rcases Nat.lt_trichotomy n m with h | h | h
 · rw [if_pos h]; exact ⟨fun _ => by decide, fun h3 => by omega⟩
 · rw [if_neg (by omega), if_pos h]; exact ⟨fun _ => by decide, fun h3 => by omega⟩
 · rw [if_neg (by omega), if_neg (by omega)]; exact ⟨fun h3 => by omega, fun _ => by decide⟩

theorem word_t (r : Nat) : ((Ieee.double.word true r : Nat) : Int) = (r : Int) + 9223372036854775808 := by unfold Ieee.Format.word; rw [signW, if_pos rfl]; omega
theorem word_f (r : Nat) : ((Ieee.double.word false r : Nat) : Int) = (r : Int) := by unfold Ieee.Format.word; rw [if_neg (by decide)]
theorem finA_top {g R : Nat} (h : min (g * 4503599627370496 + 9007199254740992) 9218868437227405312 = R) (hg : 2045 ≤ g) : R = 9218868437227405312 := by omega
theorem finA_no {g R O : Nat} (h : min (g * 4503599627370496 + 9007199254740992) 9218868437227405312 = R) (hg : ¬ 2045 ≤ g) (hO : (g + 2) * 4503599627370496 = O) : R = O := by omega
theorem finB_top {g R M μ : Nat} (h : min (g * 4503599627370496 + M) 9218868437227405312 = R) (hM : M = μ + 4503599627370496) (hg : 2046 ≤ g) : R = 9218868437227405312 := by omega
theorem finB_no {g R M μ O O2 : Nat} (h : min (g * 4503599627370496 + M) 9218868437227405312 = R) (hM : M = μ + 4503599627370496) (hμ : μ < 4503599627370496) (hg : ¬ 2046 ≤ g) (hO : (g + 1) * 4503599627370496 = O) (hO2 : μ + O = O2) : R = O2 := by omega
theorem finC {R M : Nat} (h : min (0 * 4503599627370496 + M) 9218868437227405312 = R) (hM : M < 4503599627370496) : R = M := by omega
theorem wrapO {G O : Nat} (hG : G ≤ 2046) (hO : G * 4503599627370496 = O) : IntKind.u64.wrap ((G : Int) * 4503599627370496) = (O : Int) := by
 have e : (G : Int) * 4503599627370496 = (O : Int) := by omega
 rw [e]; simp only [IntKind.wrap, IntKind.bits, IntKind.signed]; simp; omega
theorem wrapN {x : Int} {O : Nat} (h : x = (O : Int)) (hO : O < 18446744073709551616) : IntKind.u64.wrap x = (O : Int) := by
 rw [h]; simp only [IntKind.wrap, IntKind.bits, IntKind.signed]; simp; omega

set_option maxRecDepth 100000 in
set_option maxHeartbeats 12800000 in
theorem round_any (neg : Bool) (p q : Nat) (A B : Option Addr) (ca cb : Nat) (w : World) (hp0 : p ≠ 0) (hq0 : q ≠ 0) (hp : (dg16 p).length ≤ 250) (hq : (dg16 q).length ≤ 250)
  (hA : RowOf uc 1 w w.heap.size A (dg16 p)) (hB : RowOf uc 1 w w.heap.size B (dg16 q)) :
  Calls Tryz.prog 90 #[.bool neg, .slice A (dg16 p).length ca, .slice B (dg16 q).length cb] w fun e w' => e = .returned (.int .u64 (Ieee.double.word neg (rd (p * 2 ^ k1074) q) : Nat)) ∧ Below w.heap.size w w' := by
 have HA := Lib.hid hA
 have HB := Lib.hid hB
 have HP := Lib.hid hp
 have HQ := Lib.hid hq
 have HB1 := Lib.hid (bits_any p A ca w (by omega) hA)
 clear hA hB hp hq
 go_enter Tryz.func90, Tryz.ntmps90
 go_wp2_with fail
 refine HB1.out.mono ?_
 rintro e w1 ⟨⟨bp, rfl, hbp, hBP⟩, hb1⟩
 have HW1 := Lib.hid hb1
 have HBP := Lib.hid hBP
 have hbp2 : bp ≤ 4000 := by have := bits_small hBP hp0 HP.out; omega
 have HB2 := Lib.hid (bits_any q B cb w1 (by have := HQ.out; omega) (HB.out.after (Nat.le_refl _) hb1))
 clear hb1 hBP
 go_wp2_with fail
 refine HB2.out.mono ?_
 rintro e w2 ⟨⟨bq, rfl, hbq, hBQ⟩, hb2⟩
 have HW2 := Lib.hid (below_then HW1.out hb2)
 have HBQ := Lib.hid hBQ
 have hbq2 : bq ≤ 4000 := by have := bits_small hBQ hq0 HQ.out; omega
 have HEX := Lib.hid (exit_ hq0 HBP.out)
 have HBG := Lib.hid (fun g hg => EInv.begin_ hp0 hq0 HBP.out HBQ.out g hg)
 clear hb2 hBQ
 go_upto_if 25 with (fail)
 go_cut [7] (fun s7 wx => ∃ g : Nat, s7 = .int .i64 ((g : Int) - 1074) ∧ EInv p q (bp + k1021) g ∧ wx = w2)
 case first =>
  by_cases ht : (bp : Int) - bq - 54 < -1074
  · go_wp2_with fail
    go_meet
    exact ⟨0, rfl, HBG.out 0 (.inl ⟨rfl, ht⟩), rfl⟩
  · obtain ⟨g, hg⟩ : ∃ g : Nat, (g : Int) = (bp : Int) - bq - 54 + 1074 := ⟨((bp : Int) - bq - 54 + 1074).toNat, by omega⟩
    have HG := Lib.hid hg
    clear hg
    go_wp2_with fail
    go_meet
    exact ⟨g, by have := HG.out; congr 1; omega, HBG.out g (.inr HG.out), rfl⟩
 case rest =>
  obtain ⟨g0, rfl, hE0, rfl⟩ := hcut
  have HE0 := Lib.hid hE0
  have hg00 := hE0.le
  clear hE0
  have hk21 : k1021 = 1021 := k1021_eq
  have hg0b : g0 ≤ 5021 := by omega
  clear hg00 hk21
  go_wp2_with fail
  go_loopw [7] (fun sv wr => ∃ g : Nat, sv = .int .i64 ((g : Int) - 1074) ∧ EInv p q (bp + k1021) g ∧ Below w.heap.size w wr) (fun sv _ => (6000 - (intOf sv)).toNat)
  case atStart => exact ⟨g0, rfl, HE0.out, HW2.out⟩
  case round =>
   obtain ⟨g, rfl, hE, hbe⟩ := hrel
   have HE := Lib.hid hE
   have HBE := Lib.hid hbe
   have hgb : g ≤ 5021 := by have h1 := hE.le; have h2 := k1021_eq; omega
   clear hE hbe
   have HS := scaled_any p q (1021 - (g : Int)) A B ca cb wr (by have := HP.out; omega) (by have := HQ.out; omega) (by omega) (by omega) (HA.out.after (Nat.le_refl _) HBE.out) (HB.out.after (Nat.le_refl _) HBE.out)
   rw [show (1021 - (g : Int)).toNat = k1021 - g by rw [k1021_eq]; omega, show (-(1021 - (g : Int))).toNat = g - k1021 by rw [k1021_eq]; omega] at HS
   have hla : (dg16 (p * 2 ^ (k1021 - g))).length ≤ 1000 := by have h1 := len_up p (k1021 - g) 250 HP.out; have h2 := k1021_eq; omega
   have hlb : (dg16 (q * 2 ^ (g - k1021))).length ≤ 1000 := by have h1 := len_up q (g - k1021) 250 HQ.out; have h2 := k1021_eq; omega
   obtain ⟨a, ha⟩ : ∃ a, p * 2 ^ (k1021 - g) = a := ⟨_, rfl⟩
   obtain ⟨b, hb⟩ : ∃ b, q * 2 ^ (g - k1021) = b := ⟨_, rfl⟩
   rw [ha, hb] at HS
   rw [ha] at hla
   rw [hb] at hlb
   replace HS := Lib.hid HS
   have HLA := Lib.hid hla
   have HLB := Lib.hid hlb
   have HAA := Lib.hid ha
   have HBB := Lib.hid hb
   clear ha hb hla hlb
   have e1 : -((g : Int) - 1074) - 53 = 1021 - (g : Int) := by omega
   go_wp2_with fail
   refine HS.out.mono ?_
   rintro e w3 ⟨⟨A3, c3, B3, d3, rfl, r3, s3⟩, hb3⟩
   have HC := cmp_any a b A3 B3 c3 d3 w3 HLA.out HLB.out r3 s3
   have HB3 := Lib.hid (below_then HBE.out hb3)
   clear hb3 r3 s3
   by_cases hlt : a < b
   · rw [cmp_dn hlt] at HC
     replace HC := Lib.hid HC
     have HLT := Lib.hid (show p * 2 ^ (k1021 - g) < q * 2 ^ (g - k1021) by rw [HAA.out, HBB.out]; exact hlt)
     clear hlt
     go_wp2_with fail
     refine HC.out.mono ?_
     rintro e w4 ⟨rfl, hb4⟩
     have HB4 := Lib.hid (below_then HB3.out hb4)
     clear hb4
     have HS2 := scaled_any p q (1074 - (g : Int)) A B ca cb w4 (by have := HP.out; omega) (by have := HQ.out; omega) (by omega) (by omega) (HA.out.after (Nat.le_refl _) HB4.out) (HB.out.after (Nat.le_refl _) HB4.out)
     rw [show (1074 - (g : Int)).toNat = k1074 - g by rw [k1074_eq]; omega, show (-(1074 - (g : Int))).toNat = g - k1074 by rw [k1074_eq]; omega] at HS2
     have hla : (dg16 (p * 2 ^ (k1074 - g))).length ≤ 510 := by have h1 := len_up p (k1074 - g) 250 HP.out; have h2 := k1074_eq; omega
     have hlb : (dg16 (q * 2 ^ (g - k1074))).length ≤ 510 := by have h1 := len_up q (g - k1074) 250 HQ.out; have h2 := k1074_eq; omega
     have hrhe := side_rhe p q g k1074
     have hb0 : 0 < q * 2 ^ (g - k1074) := Nat.mul_pos (Nat.pos_of_ne_zero hq0) (Nat.two_pow_pos _)
     have hhi : p * 2 ^ k1074 < 9007199254740992 * (q * 2 ^ g) := by
      have h1 := (side_lt p q g k1021).1 HLT.out
      have e : k1074 = k1021 + 53 := rfl
      rw [e, Nat.pow_add 2 k1021 53, ← Nat.mul_assoc p, show (2 : Nat) ^ 53 = 9007199254740992 by decide]
      omega
     have hhi2 : p * 2 ^ (k1074 - g) < 9007199254740992 * (q * 2 ^ (g - k1074)) := by
      obtain ⟨c, hc, f1, f2⟩ := side p q g k1074
      rw [← f1, ← f2, ← Nat.mul_assoc] at hhi
      exact Nat.lt_of_mul_lt_mul_right hhi
     have hnear := (near_rhe g (p * 2 ^ k1074) q (Nat.pos_of_ne_zero hq0) hhi HE.out.lo).rd (Nat.pos_of_ne_zero hq0)
     have hsmall : g ≠ 0 → 4503599627370496 ≤ rhe (p * 2 ^ k1074) (q * 2 ^ g) := fun h => by
      have h1 := HE.out.lo.resolve_left h
      have h2 := (rhe_le (p * 2 ^ k1074) (q * 2 ^ g)).1
      have h3 : 4503599627370496 ≤ p * 2 ^ k1074 / (q * 2 ^ g) := (Nat.le_div_iff_mul_le (Nat.mul_pos (Nat.pos_of_ne_zero hq0) (Nat.two_pow_pos g))).2 h1
      omega
     rw [← hrhe] at hnear hsmall
     obtain ⟨a2, ha⟩ : ∃ a, p * 2 ^ (k1074 - g) = a := ⟨_, rfl⟩
     obtain ⟨b2, hb⟩ : ∃ b, q * 2 ^ (g - k1074) = b := ⟨_, rfl⟩
     rw [ha, hb] at HS2 hnear hsmall hhi2
     rw [ha] at hla
     rw [hb] at hlb hb0
     clear ha hb hrhe hhi HS HC HLA HLB HAA HBB HLT
     replace HS2 := Lib.hid HS2
     have HLA := Lib.hid hla
     have HLB := Lib.hid hlb
     have HNEAR := Lib.hid hnear
     have HSM := Lib.hid hsmall
     have HB0 := Lib.hid hb0
     have HHI := Lib.hid hhi2
     clear hla hlb hnear hsmall hb0 hhi2
     have e2 : -((g : Int) - 1074) = 1074 - (g : Int) := by omega
     go_wp2_with fail
     refine HS2.out.mono ?_
     rintro e w5 ⟨⟨A5, c5, B5, d5, rfl, r5, s5⟩, hb5⟩
     have HB5 := Lib.hid (below_then HB4.out hb5)
     have HR5 := Lib.hid r5
     have HS5 := Lib.hid s5
     clear hb5 r5 s5
     go_wp2_with fail
     go_loopw [12, 13] (fun mv iv wr => ∃ (j m : Nat), j ≤ 53 ∧ mv = .int .u64 m ∧ iv = .int .i64 ((j : Int) - 1) ∧ MInv a2 b2 j m ∧ Below w5.heap.size w5 wr) (fun _ iv _ => ((intOf iv) + 1).toNat)
     case atStart => exact ⟨53, 0, Nat.le_refl _, rfl, rfl, ⟨by rw [Nat.zero_mul]; exact Nat.zero_le _, by rw [Nat.zero_add, show (2 : Nat) ^ 53 = 9007199254740992 by decide]; exact HHI.out, by decide⟩, Below.refl _ _⟩
     case round =>
      obtain ⟨j, m, hj, rfl, rfl, hM, hbe2⟩ := hrel
      have HM := Lib.hid hM
      have HBE2 := Lib.hid hbe2
      have hm53 : m < 9007199254740992 := by have h1 := hM.le; have h2 := Nat.two_pow_pos j; omega
      clear hM hbe2
      by_cases hj0 : j = 0
      · subst hj0
        have HO := Lib.hid (of_big m (by omega) wr)
        have hml : (dg16 m).length ≤ 4 := dg16_len 4 m (by rw [show (65536 : Nat) ^ 4 = 18446744073709551616 by decide]; omega)
        have HML := Lib.hid hml
        clear hml
        go_wp2_with fail
        refine HO.out.mono ?_
        rintro e w6 ⟨⟨A6, c6, rfl, _, r6⟩, hb6⟩
        have HT := times_big m b2 A6 B5 c6 d5 w6 (by have := HML.out; omega) (by have := HLB.out; omega) r6 (HS5.out.after (Nat.le_refl _) (below_then HBE2.out hb6))
        have HB6 := Lib.hid (below_then HBE2.out hb6)
        have hl7 : (dg16 (m * b2)).length ≤ 1000 := by have h1 := len_mul m b2; have h2 := HML.out; have h3 := HLB.out; omega
        have hxa := HM.out.lo
        obtain ⟨x, hx⟩ : ∃ x, m * b2 = x := ⟨_, rfl⟩
        rw [hx] at HT hl7 hxa
        replace HT := Lib.hid HT
        have HX := Lib.hid hx
        have HXA := Lib.hid hxa
        have HL7 := Lib.hid hl7
        clear hb6 r6 hx hxa hl7
        go_wp2_with fail
        refine HT.out.mono ?_
        rintro e w7 ⟨⟨A7, c7, rfl, _, r7⟩, hb7⟩
        have HB7 := Lib.hid (below_then HB6.out hb7)
        have HLE := less_any a2 x A5 A7 c5 c7 w7 (by have := HLA.out; omega) HXA.out (HR5.out.after (Nat.le_refl _) HB7.out) r7
        have hlr : (dg16 (a2 - x)).length ≤ 510 := by have h1 := len_le (Nat.sub_le a2 x); have h2 := HLA.out; omega
        obtain ⟨y, hy⟩ : ∃ y, a2 - x = y := ⟨_, rfl⟩
        rw [hy] at HLE hlr
        replace HLE := Lib.hid HLE
        have HY := Lib.hid hy
        have HLR := Lib.hid hlr
        clear hb7 r7 hy hlr
        go_wp2_with fail
        refine HLE.out.mono ?_
        rintro e w8 ⟨⟨A8, c8, rfl, _, r8⟩, hb8⟩
        have HB8 := Lib.hid (below_then HB7.out hb8)
        have HU := up_big y 1 A8 c8 w8 (by have := HLR.out; omega) r8
        have hlz : (dg16 (y * 2 ^ 1)).length ≤ 1000 := by have h1 := len_up y 1 510 HLR.out; omega
        obtain ⟨z, hz⟩ : ∃ z, y * 2 ^ 1 = z := ⟨_, rfl⟩
        rw [hz] at HU hlz
        replace HU := Lib.hid HU
        have HZ := Lib.hid hz
        have HLZ := Lib.hid hlz
        clear hb8 r8 hz hlz
        go_wp2_with fail
        refine HU.out.mono ?_
        rintro e w9 ⟨⟨A9, c9, rfl, _, r9⟩, hb9⟩
        have HB9 := Lib.hid (below_then HB8.out hb9)
        have HCC := cmp_any z b2 A9 B5 c9 d5 w9 HLZ.out (by have := HLB.out; omega) r9 (HS5.out.after (Nat.le_refl _) HB9.out)
        obtain ⟨V, hV⟩ : ∃ V, cmpI z b2 = V := ⟨_, rfl⟩
        rw [hV] at HCC
        replace HCC := Lib.hid HCC
        have HV := Lib.hid hV
        have hM53 : rhe a2 b2 ≤ 9007199254740992 := by
         have h1 := (rhe_le a2 b2).2
         have h2 : a2 / b2 < 9007199254740992 := (Nat.div_lt_iff_lt_mul HB0.out).2 HHI.out
         omega
        have HM53 := Lib.hid hM53
        clear hb9 r9 hV hM53
        go_wp2_with fail
        refine HCC.out.mono ?_
        rintro e w10 ⟨rfl, hb10⟩
        have HB10 := Lib.hid (below_then HB5.out (below_then HB9.out hb10))
        clear hb10
        go_upto_region 17 with (fail)
        go_cut [86] from 76 to 108 (fun s86 wx => ∃ β : Bool, s86 = .bool β ∧ m + β.toNat = rhe a2 b2 ∧ wx = w10)
        case first =>
         rcases Nat.lt_trichotomy z b2 with h | h | h
         · have hr := rhe_up HB0.out HM.out (by rw [HX.out, HY.out, HZ.out]; exact h)
           have hv : V = -1 := by rw [← HV.out]; exact cmp_dn h
           have HR := Lib.hid hr
           subst hv
           clear h hr
           go_wp2_with fail
           go_meet
           exact ⟨false, rfl, HR.out.symm, rfl⟩
         · have hr := rhe_tie HB0.out HM.out (by rw [HX.out, HY.out, HZ.out]; exact h)
           have hv : V = 0 := by rw [← HV.out]; unfold cmpI; rw [if_neg (by omega), if_pos h]
           subst hv
           clear h
           by_cases ho : m % 2 = 1
           · rw [if_pos ho] at hr
             have HR := Lib.hid hr
             have ho1 : ((m : Int) % 2 == 1) = true := by simp; omega
             have ho2 : (m : Int) % 2 = 1 := by omega
             clear hr ho
             go_wp2_with fail
             go_meet
             exact ⟨true, rfl, HR.out.symm, rfl⟩
           · rw [if_neg ho] at hr
             have HR := Lib.hid hr
             have ho1 : ((m : Int) % 2 == 1) = false := by simp; omega
             clear hr ho
             go_wp2_with fail
             go_meet
             exact ⟨false, rfl, HR.out.symm, rfl⟩
         · have hr := rhe_over HB0.out HM.out (by rw [HX.out, HY.out, HZ.out]; exact h)
           have hv : V = 1 := by rw [← HV.out]; unfold cmpI; rw [if_neg (by omega), if_neg (by omega)]
           have HR := Lib.hid hr
           subst hv
           clear h hr
           go_wp2_with fail
           go_meet
           exact ⟨true, rfl, HR.out.symm, rfl⟩
        case rest =>
         obtain ⟨β, rfl, hMr, rfl⟩ := hcut
         have hM1 := HM53.out
         have hM2 := HSM.out
         have hM3 := HNEAR.out
         rw [← hMr] at hM1 hM2 hM3
         obtain ⟨R, hR⟩ : ∃ R, rd (p * 2 ^ k1074) q = R := ⟨_, rfl⟩
         rw [hR] at hM3
         have HRR := Lib.hid hR
         obtain ⟨M, hMm⟩ : ∃ M, m + β.toNat = M := ⟨_, rfl⟩
         rw [hMm] at hM1 hM2 hM3
         clear hMr hR HM HSM HNEAR HM53 HO HT HLE HU HCC HEX HBG HE0
         cases β with
         | true =>
          replace hMm : m + 1 = M := hMm
          clear hM1
          by_cases hx : m = 9007199254740991
          · obtain rfl : M = 9007199254740992 := by omega
            obtain ⟨G, hG⟩ : ∃ G : Nat, g + 2 = G := ⟨_, rfl⟩
            have eG : (g : Int) - 1074 + 1 + 1075 = (G : Int) := by omega
            have HG := Lib.hid hG
            have HR4 := Lib.hid hM3
            clear hG hM3 hM2 hMm
            subst hx
            by_cases hg : 2045 ≤ g
            · obtain ⟨O, hO⟩ : ∃ O, IntKind.u64.wrap ((G : Int) * 4503599627370496) = O := ⟨_, rfl⟩
              have HFIN := Lib.hid (finA_top HR4.out hg)
              have hgt : (971 : Int) < (g : Int) - 1074 + 1 := by omega
              clear hg
              cases neg with
              | true =>
               go_wp2_with fail
               go_ret
               exact ⟨by rw [HRR.out, HFIN.out]; exact ret_int (by rw [word_t]; first | done | rfl), HB10.out⟩
              | false =>
               go_wp2_with fail
               go_ret
               exact ⟨by rw [HRR.out, HFIN.out]; exact ret_int (by rw [word_f]; first | done | rfl), HB10.out⟩
            · have hG2 : G ≤ 2046 := by have := HG.out; omega
              obtain ⟨O, hO⟩ : ∃ O, G * 4503599627370496 = O := ⟨_, rfl⟩
              have hO1 := wrapO hG2 hO
              have hO5 : O ≤ 9214364837600034816 := by omega
              have hO2 : IntKind.u64.wrap (O : Int) = (O : Int) := wrapN rfl (by omega)
              have HFIN := Lib.hid (finA_no (O := O) HR4.out hg (by rw [HG.out]; exact hO))
              have hgt : ¬ (971 : Int) < (g : Int) - 1074 + 1 := by omega
              clear hg hO hG2
              cases neg with
              | true =>
               have hz : IntKind.u64.wrap ((O : Int) + 9223372036854775808) = ((O + 9223372036854775808 : Nat) : Int) := wrapN (by omega) (by omega)
               go_wp2_with fail
               go_ret
               exact ⟨by rw [HRR.out, HFIN.out]; exact ret_int (by rw [word_t]; first | done | rfl), HB10.out⟩
              | false =>
               go_wp2_with fail
               go_ret
               exact ⟨by rw [HRR.out, HFIN.out]; exact ret_int (by rw [word_f]; first | done | rfl), HB10.out⟩
          · have hm52 : m < 9007199254740991 := by omega
            clear hm53
            have hw1 : IntKind.u64.wrap ((m : Int) + 1) = (M : Int) := wrapN (by omega) (by omega)
            have hM55 : M < 9007199254740992 := by omega
            have hq1 : ((M : Int) == 9007199254740992) = false := by simp; omega
            have HR4 := Lib.hid hM3
            clear hM3 hx hMm
            by_cases hb : 4503599627370496 ≤ M
            · obtain ⟨μ, hμ⟩ : ∃ μ : Nat, M = μ + 4503599627370496 := ⟨M - 4503599627370496, by omega⟩
              have hμ3 : μ < 4503599627370496 := by omega
              have hμ2 : IntKind.u64.wrap ((M : Int) - 4503599627370496) = (μ : Int) := wrapN (by omega) (by omega)
              have hb1 : (4503599627370496 : Int) ≤ (M : Int) := by omega
              have HMU := Lib.hid hμ3
              have HMM := Lib.hid hμ
              obtain ⟨G, hG⟩ : ∃ G : Nat, g + 1 = G := ⟨_, rfl⟩
              have eG : (g : Int) - 1074 + 1075 = (G : Int) := by omega
              have HG := Lib.hid hG
              clear hb hμ hG hμ3 hM2 hM55
              by_cases hg : 2046 ≤ g
              · obtain ⟨O, hO⟩ : ∃ O, IntKind.u64.wrap ((G : Int) * 4503599627370496) = O := ⟨_, rfl⟩
                obtain ⟨O2, hO2⟩ : ∃ O2, IntKind.u64.wrap ((μ : Int) + O) = O2 := ⟨_, rfl⟩
                have HFIN := Lib.hid (finB_top HR4.out HMM.out hg)
                have hgt : (971 : Int) < (g : Int) - 1074 := by omega
                clear hg
                cases neg with
                | true =>
                 go_wp2_with fail
                 go_ret
                 exact ⟨by rw [HRR.out, HFIN.out]; exact ret_int (by rw [word_t]; first | done | rfl), HB10.out⟩
                | false =>
                 go_wp2_with fail
                 go_ret
                 exact ⟨by rw [HRR.out, HFIN.out]; exact ret_int (by rw [word_f]; first | done | rfl), HB10.out⟩
              · have hG2 : G ≤ 2046 := by have := HG.out; omega
                obtain ⟨O, hO⟩ : ∃ O, G * 4503599627370496 = O := ⟨_, rfl⟩
                have hO1 := wrapO hG2 hO
                obtain ⟨O2, hO2⟩ : ∃ O2, μ + O = O2 := ⟨_, rfl⟩
                have hO3 : O2 < 9218868437227405312 := by have := HMU.out; omega
                have hO4 : IntKind.u64.wrap ((μ : Int) + (O : Int)) = (O2 : Int) := wrapN (by omega) (by omega)
                have HFIN := Lib.hid (finB_no HR4.out HMM.out HMU.out hg (by rw [HG.out]; exact hO) hO2)
                have hgt : ¬ (971 : Int) < (g : Int) - 1074 := by omega
                clear hg hO hO2 hG2
                cases neg with
                | true =>
                 have hz : IntKind.u64.wrap ((O2 : Int) + 9223372036854775808) = ((O2 + 9223372036854775808 : Nat) : Int) := wrapN (by omega) (by omega)
                 go_wp2_with fail
                 go_ret
                 exact ⟨by rw [HRR.out, HFIN.out]; exact ret_int (by rw [word_t]; first | done | rfl), HB10.out⟩
                | false =>
                 go_wp2_with fail
                 go_ret
                 exact ⟨by rw [HRR.out, HFIN.out]; exact ret_int (by rw [word_f]; first | done | rfl), HB10.out⟩
            · have hg0 : g = 0 := by
               rcases Nat.eq_zero_or_pos g with h | h
               · exact h
               · have := hM2 (by omega); omega
              have hb1 : ¬ (4503599627370496 : Int) ≤ (M : Int) := by omega
              have hM6 : M < 4503599627370496 := by omega
              have HR5 := Lib.hid (show min (0 * 4503599627370496 + M) 9218868437227405312 = R by have h := HR4.out; rw [hg0] at h; exact h)
              have HFIN := Lib.hid (finC HR5.out hM6)
              subst hg0
              clear hb hM2 hM55
              cases neg with
              | true =>
               have hz : IntKind.u64.wrap ((M : Int) + 9223372036854775808) = ((M + 9223372036854775808 : Nat) : Int) := wrapN (by omega) (by omega)
               go_wp2_with fail
               go_ret
               exact ⟨by rw [HRR.out, HFIN.out]; exact ret_int (by rw [word_t]; first | done | rfl), HB10.out⟩
              | false =>
               go_wp2_with fail
               go_ret
               exact ⟨by rw [HRR.out, HFIN.out]; exact ret_int (by rw [word_f]; first | done | rfl), HB10.out⟩
         | false =>
          replace hMm : m = M := hMm
          clear hM1
          subst hMm
          have hM55 : m < 9007199254740992 := by omega
          have hq1 : ((m : Int) == 9007199254740992) = false := by simp; omega
          have HR4 := Lib.hid hM3
          clear hM3
          by_cases hb : 4503599627370496 ≤ m
          · obtain ⟨μ, hμ⟩ : ∃ μ : Nat, m = μ + 4503599627370496 := ⟨m - 4503599627370496, by omega⟩
            have hμ3 : μ < 4503599627370496 := by omega
            have hμ2 : IntKind.u64.wrap ((m : Int) - 4503599627370496) = (μ : Int) := wrapN (by omega) (by omega)
            have hb1 : (4503599627370496 : Int) ≤ (m : Int) := by omega
            have HMU := Lib.hid hμ3
            have HMM := Lib.hid hμ
            obtain ⟨G, hG⟩ : ∃ G : Nat, g + 1 = G := ⟨_, rfl⟩
            have eG : (g : Int) - 1074 + 1075 = (G : Int) := by omega
            have HG := Lib.hid hG
            clear hb hμ hG hμ3 hM2 hM55
            by_cases hg : 2046 ≤ g
            · obtain ⟨O, hO⟩ : ∃ O, IntKind.u64.wrap ((G : Int) * 4503599627370496) = O := ⟨_, rfl⟩
              obtain ⟨O2, hO2⟩ : ∃ O2, IntKind.u64.wrap ((μ : Int) + O) = O2 := ⟨_, rfl⟩
              have HFIN := Lib.hid (finB_top HR4.out HMM.out hg)
              have hgt : (971 : Int) < (g : Int) - 1074 := by omega
              clear hg
              cases neg with
              | true =>
               go_wp2_with fail
               go_ret
               exact ⟨by rw [HRR.out, HFIN.out]; exact ret_int (by rw [word_t]; first | done | rfl), HB10.out⟩
              | false =>
               go_wp2_with fail
               go_ret
               exact ⟨by rw [HRR.out, HFIN.out]; exact ret_int (by rw [word_f]; first | done | rfl), HB10.out⟩
            · have hG2 : G ≤ 2046 := by have := HG.out; omega
              obtain ⟨O, hO⟩ : ∃ O, G * 4503599627370496 = O := ⟨_, rfl⟩
              have hO1 := wrapO hG2 hO
              obtain ⟨O2, hO2⟩ : ∃ O2, μ + O = O2 := ⟨_, rfl⟩
              have hO3 : O2 < 9218868437227405312 := by have := HMU.out; omega
              have hO4 : IntKind.u64.wrap ((μ : Int) + (O : Int)) = (O2 : Int) := wrapN (by omega) (by omega)
              have HFIN := Lib.hid (finB_no HR4.out HMM.out HMU.out hg (by rw [HG.out]; exact hO) hO2)
              have hgt : ¬ (971 : Int) < (g : Int) - 1074 := by omega
              clear hg hO hO2 hG2
              cases neg with
              | true =>
               have hz : IntKind.u64.wrap ((O2 : Int) + 9223372036854775808) = ((O2 + 9223372036854775808 : Nat) : Int) := wrapN (by omega) (by omega)
               go_wp2_with fail
               go_ret
               exact ⟨by rw [HRR.out, HFIN.out]; exact ret_int (by rw [word_t]; first | done | rfl), HB10.out⟩
              | false =>
               go_wp2_with fail
               go_ret
               exact ⟨by rw [HRR.out, HFIN.out]; exact ret_int (by rw [word_f]; first | done | rfl), HB10.out⟩
          · have hg0 : g = 0 := by
             rcases Nat.eq_zero_or_pos g with h | h
             · exact h
             · have := hM2 (by omega); omega
            have hb1 : ¬ (4503599627370496 : Int) ≤ (m : Int) := by omega
            have hM6 : m < 4503599627370496 := by omega
            have HR5 := Lib.hid (show min (0 * 4503599627370496 + m) 9218868437227405312 = R by have h := HR4.out; rw [hg0] at h; exact h)
            have HFIN := Lib.hid (finC HR5.out hM6)
            subst hg0
            clear hb hM2 hM55
            cases neg with
            | true =>
             have hz : IntKind.u64.wrap ((m : Int) + 9223372036854775808) = ((m + 9223372036854775808 : Nat) : Int) := wrapN (by omega) (by omega)
             go_wp2_with fail
             go_ret
             exact ⟨by rw [HRR.out, HFIN.out]; exact ret_int (by rw [word_t]; first | done | rfl), HB10.out⟩
            | false =>
             go_wp2_with fail
             go_ret
             exact ⟨by rw [HRR.out, HFIN.out]; exact ret_int (by rw [word_f]; first | done | rfl), HB10.out⟩
      · obtain ⟨t, rfl⟩ : ∃ t, j = t + 1 := ⟨j - 1, by omega⟩
        obtain ⟨J, hJ⟩ : ∃ J : Nat, 2 ^ t = J := ⟨_, rfl⟩
        have hJ2 : J ≤ 4503599627370496 := by
         have : 2 ^ t ≤ 2 ^ 52 := Nat.pow_le_pow_right (by decide) (by omega)
         rw [hJ] at this; exact this
        have hJ3 : ((2 : Int) ^ t) = (J : Int) := by rw [← hJ]; push_cast; rfl
        have hsh : IntKind.u64.wrap ((2 : Int) ^ t) = (J : Int) := by
         rw [hJ3]; simp only [IntKind.wrap, IntKind.bits, IntKind.signed]; simp; omega
        have e3 : ((t + 1 : Nat) : Int) - 1 = (t : Int) := by omega
        obtain ⟨mo, hmo⟩ : ∃ mo, m + J = mo := ⟨_, rfl⟩
        have hmo1 : (m : Int) + (J : Int) = (mo : Int) := by omega
        have hmo2 : mo ≤ 9007199254740992 := by have := HM.out.le; rw [Nat.pow_succ, hJ] at this; omega
        have HMO := Lib.hid (show m + 2 ^ t = mo by rw [hJ, hmo])
        have HO := Lib.hid (of_big mo (by omega) wr)
        have hmol : (dg16 mo).length ≤ 4 := dg16_len 4 mo (by rw [show (65536 : Nat) ^ 4 = 18446744073709551616 by decide]; omega)
        have HMOL := Lib.hid hmol
        rw [e3]
        clear hJ hJ3 hmo hmol
        go_wp2_with fail
        refine HO.out.mono ?_
        rintro e w6 ⟨⟨A6, c6, rfl, _, r6⟩, hb6⟩
        have HT := Lib.hid (times_big mo b2 A6 B5 c6 d5 w6 (by have := HMOL.out; omega) (by have := HLB.out; omega) r6 (HS5.out.after (Nat.le_refl _) (below_then HBE2.out hb6)))
        have HB6 := Lib.hid (below_then HBE2.out hb6)
        clear hb6 r6
        go_wp2_with fail
        refine HT.out.mono ?_
        rintro e w7 ⟨⟨A7, c7, rfl, _, r7⟩, hb7⟩
        have HB7 := Lib.hid (below_then HB6.out hb7)
        have hl7 : (dg16 (mo * b2)).length ≤ 1000 := by have h1 := len_mul mo b2; have h2 := HMOL.out; have h3 := HLB.out; omega
        have HC7 := cmp_any (mo * b2) a2 A7 A5 c7 c5 w7 hl7 (by have := HLA.out; omega) r7 (HR5.out.after (Nat.le_refl _) HB7.out)
        obtain ⟨x, hx⟩ : ∃ x, mo * b2 = x := ⟨_, rfl⟩
        rw [hx] at HC7 ⊢
        obtain ⟨V, hV, hV1, hV2⟩ := cmp_le x a2
        rw [hV] at HC7
        replace HC7 := Lib.hid HC7
        have HX := Lib.hid hx
        clear hb7 r7 hl7 hx hV
        by_cases hle : x ≤ a2
        · have hV3 : V ≤ 0 := hV1 hle
          have HLE := Lib.hid hle
          clear hV1 hV2 hle
          go_wp2_with fail
          refine HC7.out.mono ?_
          rintro e w8 ⟨rfl, hb8⟩
          go_wp2_with fail
          refine ⟨⟨t, mo, by omega, rfl, rfl, by rw [← HMO.out]; exact HM.out.yes (by rw [HMO.out, HX.out]; exact HLE.out), below_then HB7.out hb8⟩, by simp [intOf] <;> omega⟩
        · have hV3 : ¬ V ≤ 0 := hV2 hle
          have HLE := Lib.hid hle
          clear hV1 hV2 hle
          go_wp2_with fail
          refine HC7.out.mono ?_
          rintro e w8 ⟨rfl, hb8⟩
          go_wp2_with fail
          refine ⟨⟨t, m, by omega, rfl, rfl, HM.out.no (by rw [HMO.out, HX.out]; exact HLE.out), below_then HB7.out hb8⟩, by simp [intOf] <;> omega⟩
   · obtain ⟨V, hV, hV1, _, _⟩ := cmp_up hlt
     rw [hV] at HC
     replace HC := Lib.hid HC
     have HLT := Lib.hid (show ¬ p * 2 ^ (k1021 - g) < q * 2 ^ (g - k1021) by rw [HAA.out, HBB.out]; exact hlt)
     clear hlt hV
     go_wp2_with fail
     refine HC.out.mono ?_
     rintro e w4 ⟨rfl, hb4⟩
     go_wp2_with fail
     refine ⟨⟨g + 1, by congr 1; omega, HE.out.next HLT.out HEX.out, below_then HB3.out hb4⟩, by simp [intOf] <;> omega⟩
end Go.Proofs.YtclbmmiedihepaaGreatDoor
