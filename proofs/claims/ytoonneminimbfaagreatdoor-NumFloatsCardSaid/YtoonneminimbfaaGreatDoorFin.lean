/- The model's sums, products and quotients of floats, told by their parts. -/
import Derived.Test.YtoonneminimbfaaGreatDoorRd
import Derived.Test.YtoonneminimbfaaGreatDoorOrder0
namespace Go.Proofs.YtoonneminimbfaaGreatDoor
set_option linter.unusedVariables false
set_option linter.unusedSimpArgs false

/-- The document's word for a result. -/
def OutF (o : Option Nat) (v : Nat) : Prop := match o with | some x => v = x | none => v = 9221120237041090561
theorem outF_show {o : Option Nat} {v : Nat} (h : OutF o v) : canon v = showC o := by
  cases o with
  | some x => simp only [OutF] at h; rw [h]; rfl
  | none => simp only [OutF] at h; rw [h]; decide
def sg (b : Nat) : Bool := decide (9223372036854775808 ≤ b)
abbrev finB (b : Nat) : Prop := b % 9223372036854775808 < 9218868437227405312
abbrev infB (b : Nat) : Prop := b % 9223372036854775808 = 9218868437227405312
abbrev zerB (b : Nat) : Prop := b % 9223372036854775808 = 0
theorem fin_of {b : Nat} (h : nanB b = false) (h2 : ¬ infB b) : finB b := by
  have : ¬ b % 9223372036854775808 > 9218868437227405312 := by rw [nanB_is] at h; simpa using h
  unfold infB at h2
  unfold finB
  omega
theorem fin_z {b : Nat} (h : zerB b) : finB b := by unfold zerB at h; unfold finB; omega
theorem word_sg {b : Nat} (hb : b < 18446744073709551616) : Ieee.double.word (sg b) (b % 9223372036854775808) = b := word_b b hb
theorem write_num (s : Bool) (m : Nat) (e : Int) : Ieee.double.write (.number s m e) = Ieee.double.word s (nr m e) := nearest_nr s m e
theorem write_inf (s : Bool) : Ieee.double.write (.infinity s) = Ieee.double.word s 9218868437227405312 := by
  unfold Ieee.Format.write; rw [infR]
theorem spM_zero {b : Nat} : spM b = 0 ↔ zerB b := by
  constructor
  · intro h
    have h1 := sp_V b
    rw [h, Nat.zero_mul] at h1
    have := V_inj (h1.symm.trans V_zero.symm)
    exact this
  · intro h
    have h1 := sp_V b
    rw [h, V_zero] at h1
    rcases Nat.mul_eq_zero.1 h1 with h2 | h2
    · exact h2
    · have := Nat.two_pow_pos (spK b); omega
theorem natAbs_sgn (s : Bool) (n : Nat) : (sgn s n).natAbs = n := by unfold sgn; cases s <;> simp
theorem sgn_neg {s : Bool} {n : Nat} (h : n ≠ 0) : decide (sgn s n < 0) = s := by
  unfold sgn
  cases s
  · simp
  · simp; omega

theorem sgn_ne {s : Bool} {n : Nat} (h : n ≠ 0) : ¬ sgn s n = 0 := by unfold sgn; cases s <;> simp <;> omega
theorem add_nan {a b : Nat} (h : nanB a = true ∨ nanB b = true) : floatBits .add .f64 a b = none := by
  show ((Ieee.double.read a).sum (Ieee.double.read b)).map Ieee.double.write = none
  rcases h with h | h
  · obtain ⟨s, t, e⟩ := read_nanB a h
    rw [e]; rfl
  · obtain ⟨s, t, e⟩ := read_nanB b h
    rw [e]
    cases Ieee.double.read a <;> rfl
theorem add_inf_ne {a b : Nat} (ha : a < 18446744073709551616) (hb : b < 18446744073709551616) (h1 : infB a) (h2 : infB b) (h3 : sg a ≠ sg b) : floatBits .add .f64 a b = none := by
  show ((Ieee.double.read a).sum (Ieee.double.read b)).map Ieee.double.write = none
  rw [read_inf a ha h1, read_inf b hb h2]
  unfold Ieee.Datum.sum
  simp only
  rw [if_neg (show ¬ decide (9223372036854775808 ≤ a) = decide (9223372036854775808 ≤ b) from h3)]; rfl
theorem add_inf_l {a b : Nat} (ha : a < 18446744073709551616) (hb : b < 18446744073709551616) (h1 : infB a) (hn : nanB b = false) (h3 : infB b → sg a = sg b) : floatBits .add .f64 a b = some a := by
  show ((Ieee.double.read a).sum (Ieee.double.read b)).map Ieee.double.write = some a
  have hw : Ieee.double.write (.infinity (decide (9223372036854775808 ≤ a))) = a := by
    rw [write_inf]
    have := word_b a ha
    rw [h1] at this
    exact this
  rw [read_inf a ha h1]
  by_cases hi : infB b
  · rw [read_inf b hb hi]
    unfold Ieee.Datum.sum
    simp only
    rw [if_pos (show decide (9223372036854775808 ≤ a) = decide (9223372036854775808 ≤ b) from h3 hi)]
    simp only [Option.map_some]
    rw [hw]
  · rw [read_fin b hb (fin_of hn hi)]
    unfold Ieee.Datum.sum
    simp only [Option.map_some]
    rw [hw]
theorem sum_parts {a b : Nat} (ha : a < 18446744073709551616) (hb : b < 18446744073709551616) (h1 : finB a) (h2 : finB b) :
    floatBits .add .f64 a b = some (Ieee.double.write (.number (if sgn (sg a) (spM a * 2 ^ (spE a - min (spE a) (spE b)).toNat) + sgn (sg b) (spM b * 2 ^ (spE b - min (spE a) (spE b)).toNat) = 0 then sg a && sg b
      else decide (sgn (sg a) (spM a * 2 ^ (spE a - min (spE a) (spE b)).toNat) + sgn (sg b) (spM b * 2 ^ (spE b - min (spE a) (spE b)).toNat) < 0))
      (sgn (sg a) (spM a * 2 ^ (spE a - min (spE a) (spE b)).toNat) + sgn (sg b) (spM b * 2 ^ (spE b - min (spE a) (spE b)).toNat)).natAbs (min (spE a) (spE b)))) := by
  show ((Ieee.double.read a).sum (Ieee.double.read b)).map Ieee.double.write = _
  rw [read_fin a ha h1, read_fin b hb h2]
  unfold Ieee.Datum.sum
  simp only [Option.map_some, signed_eq]
  rfl
theorem nr_lift (m : Nat) (e low : Int) (h : low ≤ e) : nr (m * 2 ^ (e - low).toNat) low = nr m e := by
  rw [nr_up, show low + (((e - low).toNat : Nat) : Int) = e by omega]
theorem add_zero_r {a b : Nat} (ha : a < 18446744073709551616) (hb : b < 18446744073709551616) (h1 : finB a) (h2 : zerB b) (h3 : ¬ zerB a) : floatBits .add .f64 a b = some a := by
  rw [sum_parts ha hb h1 (fin_z h2), spM_zero.2 h2, Nat.zero_mul, show sgn (sg b) 0 = 0 by unfold sgn; cases sg b <;> rfl, Int.add_zero]
  have hm : spM a * 2 ^ (spE a - min (spE a) (spE b)).toNat ≠ 0 := by
    have h4 : spM a ≠ 0 := fun e => h3 (spM_zero.1 e)
    have := Nat.mul_pos (Nat.pos_of_ne_zero h4) (Nat.two_pow_pos (spE a - min (spE a) (spE b)).toNat)
    omega
  rw [if_neg (sgn_ne hm), sgn_neg hm, natAbs_sgn, write_num, nr_lift _ _ _ (Int.min_le_left _ _), nr_sp a h1, word_sg ha]
theorem add_zz {a b : Nat} (ha : a < 18446744073709551616) (hb : b < 18446744073709551616) (h1 : zerB a) (h2 : zerB b) : floatBits .add .f64 a b = some (Ieee.double.word (sg a && sg b) 0) := by
  rw [sum_parts ha hb (fin_z h1) (fin_z h2), spM_zero.2 h1, spM_zero.2 h2, Nat.zero_mul, Nat.zero_mul, show sgn (sg a) 0 = 0 by unfold sgn; cases sg a <;> rfl, show sgn (sg b) 0 = 0 by unfold sgn; cases sg b <;> rfl]
  rw [show (0 : Int) + 0 = 0 by rfl, if_pos rfl, write_num, show (0 : Int).natAbs = 0 by rfl, nr_zero]
/-- Two numbers of one sign. -/
theorem add_alike {a b : Nat} (ha : a < 18446744073709551616) (hb : b < 18446744073709551616) (h1 : finB a) (h2 : finB b) (h3 : ¬ zerB a) (hs : sg a = sg b) :
    floatBits .add .f64 a b = some (Ieee.double.word (sg a) (nr (spM a * 2 ^ (spE a - min (spE a) (spE b)).toNat + spM b * 2 ^ (spE b - min (spE a) (spE b)).toNat) (min (spE a) (spE b)))) := by
  rw [sum_parts ha hb h1 h2, ← hs]
  have h4 : spM a ≠ 0 := fun e => h3 (spM_zero.1 e)
  have hm := Nat.mul_pos (Nat.pos_of_ne_zero h4) (Nat.two_pow_pos (spE a - min (spE a) (spE b)).toNat)
  generalize spM a * 2 ^ (spE a - min (spE a) (spE b)).toNat = x at *
  generalize spM b * 2 ^ (spE b - min (spE a) (spE b)).toNat = y at *
  have e : sgn (sg a) x + sgn (sg a) y = sgn (sg a) (x + y) := by unfold sgn; cases sg a <;> simp <;> omega
  rw [e, if_neg (sgn_ne (by omega)), sgn_neg (by omega), natAbs_sgn, write_num]
/-- Two numbers of two signs. -/
theorem add_other {a b : Nat} (ha : a < 18446744073709551616) (hb : b < 18446744073709551616) (h1 : finB a) (h2 : finB b) (hs : sg a ≠ sg b) (x y : Nat)
    (hx : spM a * 2 ^ (spE a - min (spE a) (spE b)).toNat = x) (hy : spM b * 2 ^ (spE b - min (spE a) (spE b)).toNat = y) :
    (x = y → floatBits .add .f64 a b = some 0) ∧
    (y < x → floatBits .add .f64 a b = some (Ieee.double.word (sg a) (nr (x - y) (min (spE a) (spE b))))) ∧
    (x < y → floatBits .add .f64 a b = some (Ieee.double.word (sg b) (nr (y - x) (min (spE a) (spE b))))) := by
  rw [sum_parts ha hb h1 h2, hx, hy]
  have hs2 : sg b = !sg a := by revert hs; cases sg a <;> cases sg b <;> simp
  rw [hs2]
  refine ⟨fun h => ?_, fun h => ?_, fun h => ?_⟩
  · subst h
    rw [if_pos (by unfold sgn; cases sg a <;> simp <;> omega), write_num]
    have : (sgn (sg a) x + sgn (!sg a) x).natAbs = 0 := by unfold sgn; cases sg a <;> simp <;> omega
    rw [this, nr_zero]
    cases sg a <;> rfl
  · have e : sgn (sg a) x + sgn (!sg a) y = sgn (sg a) (x - y) := by unfold sgn; cases sg a <;> simp <;> omega
    rw [e, if_neg (sgn_ne (by omega)), sgn_neg (by omega), natAbs_sgn, write_num]
  · have e : sgn (sg a) x + sgn (!sg a) y = sgn (!sg a) (y - x) := by unfold sgn; cases sg a <;> simp <;> omega
    rw [e, if_neg (sgn_ne (by omega)), sgn_neg (by omega), natAbs_sgn, write_num]

/-! ### Less -/
theorem read_opp {b : Nat} (hb : b < 18446744073709551616) : Ieee.double.read (if 9223372036854775808 ≤ b then b - 9223372036854775808 else b + 9223372036854775808) = (Ieee.double.read b).opposite := by
  unfold Ieee.Format.read
  simp only [signW, binade_, infR, least]
  by_cases h : 9223372036854775808 ≤ b
  · rw [if_pos h]
    have e1 : (b - 9223372036854775808) % 9223372036854775808 = b % 9223372036854775808 := by omega
    have e2 : ((b - 9223372036854775808) / 9223372036854775808 % 2 == 1) = !(b / 9223372036854775808 % 2 == 1) := by
      have c1 : (b - 9223372036854775808) / 9223372036854775808 % 2 = 0 := by omega
      have c2 : b / 9223372036854775808 % 2 = 1 := by omega
      rw [c1, c2]; rfl
    rw [e1, e2]
    split
    · rfl
    · split
      · rfl
      · split <;> rfl
  · rw [if_neg h]
    have e1 : (b + 9223372036854775808) % 9223372036854775808 = b % 9223372036854775808 := by omega
    have e2 : ((b + 9223372036854775808) / 9223372036854775808 % 2 == 1) = !(b / 9223372036854775808 % 2 == 1) := by
      have c1 : (b + 9223372036854775808) / 9223372036854775808 % 2 = 1 := by omega
      have c2 : b / 9223372036854775808 % 2 = 0 := by omega
      rw [c1, c2]; rfl
    rw [e1, e2]
    split
    · rfl
    · split
      · rfl
      · split <;> rfl
theorem sub_is_add {a b : Nat} (hb : b < 18446744073709551616) : floatBits .sub .f64 a b = floatBits .add .f64 a (if 9223372036854775808 ≤ b then b - 9223372036854775808 else b + 9223372036854775808) := by
  show ((Ieee.double.read a).sum (Ieee.double.read b).opposite).map Ieee.double.write = ((Ieee.double.read a).sum (Ieee.double.read _)).map Ieee.double.write
  rw [read_opp hb]

/-! ### Times -/
def xs (a b : Nat) : Bool := sg a ^^ sg b
theorem mul_none {a b : Nat} (ha : a < 18446744073709551616) (hb : b < 18446744073709551616) (h : nanB a = true ∨ nanB b = true ∨ (infB a ∧ zerB b) ∨ (zerB a ∧ infB b)) : floatBits .mul .f64 a b = none := by
  show ((Ieee.double.read a).product (Ieee.double.read b)).map Ieee.double.write = none
  rcases h with h | h | ⟨h1, h2⟩ | ⟨h1, h2⟩
  · obtain ⟨s, t, e⟩ := read_nanB a h
    rw [e]; rfl
  · obtain ⟨s, t, e⟩ := read_nanB b h
    rw [e]
    cases Ieee.double.read a <;> rfl
  · rw [read_inf a ha h1, read_fin b hb (fin_z h2), spM_zero.2 h2]; rfl
  · rw [read_inf b hb h2, read_fin a ha (fin_z h1), spM_zero.2 h1]; rfl
theorem mul_inf {a b : Nat} (ha : a < 18446744073709551616) (hb : b < 18446744073709551616) (na : nanB a = false) (nb : nanB b = false) (h : infB a ∨ infB b) (h1 : ¬ (infB a ∧ zerB b)) (h2 : ¬ (zerB a ∧ infB b)) :
    floatBits .mul .f64 a b = some (Ieee.double.word (xs a b) 9218868437227405312) := by
  show ((Ieee.double.read a).product (Ieee.double.read b)).map Ieee.double.write = _
  by_cases ia : infB a <;> by_cases ib : infB b
  · rw [read_inf a ha ia, read_inf b hb ib]
    unfold Ieee.Datum.product
    simp only [Option.map_some, write_inf]; rfl
  · rw [read_inf a ha ia, read_fin b hb (fin_of nb ib)]
    unfold Ieee.Datum.product
    simp only
    rw [if_neg (fun e => h1 ⟨ia, spM_zero.1 e⟩)]
    simp only [Option.map_some, write_inf]; rfl
  · rw [read_fin a ha (fin_of na ia), read_inf b hb ib]
    unfold Ieee.Datum.product
    simp only
    rw [if_neg (fun e => h2 ⟨spM_zero.1 e, ib⟩)]
    simp only [Option.map_some, write_inf]
    rw [Bool.xor_comm]; rfl
  · rcases h with h | h <;> contradiction
theorem mul_fin {a b : Nat} (ha : a < 18446744073709551616) (hb : b < 18446744073709551616) (h1 : finB a) (h2 : finB b) :
    floatBits .mul .f64 a b = some (Ieee.double.word (xs a b) (nr (spM a * spM b) (spE a + spE b))) := by
  show ((Ieee.double.read a).product (Ieee.double.read b)).map Ieee.double.write = _
  rw [read_fin a ha h1, read_fin b hb h2]
  unfold Ieee.Datum.product
  simp only [Option.map_some, write_num]; rfl

/-! ### Over -/
theorem quo_none {a b : Nat} (ha : a < 18446744073709551616) (hb : b < 18446744073709551616) (h : nanB a = true ∨ nanB b = true ∨ (infB a ∧ infB b) ∨ (zerB a ∧ zerB b)) : floatBits .quo .f64 a b = none := by
  show ((Ieee.double.read a).quotient _ (Ieee.double.read b)).map Ieee.double.write = none
  rcases h with h | h | ⟨h1, h2⟩ | ⟨h1, h2⟩
  · obtain ⟨s, t, e⟩ := read_nanB a h
    rw [e]; rfl
  · obtain ⟨s, t, e⟩ := read_nanB b h
    rw [e]
    cases Ieee.double.read a <;> rfl
  · rw [read_inf a ha h1, read_inf b hb h2]; rfl
  · rw [read_fin a ha (fin_z h1), read_fin b hb (fin_z h2), spM_zero.2 h1, spM_zero.2 h2]
    unfold Ieee.Datum.quotient
    simp
theorem quo_inf {a b : Nat} (ha : a < 18446744073709551616) (hb : b < 18446744073709551616) (na : nanB a = false) (nb : nanB b = false) (h : infB a ∨ zerB b) (h1 : ¬ (infB a ∧ infB b)) (h2 : ¬ (zerB a ∧ zerB b)) :
    floatBits .quo .f64 a b = some (Ieee.double.word (xs a b) 9218868437227405312) := by
  show ((Ieee.double.read a).quotient _ (Ieee.double.read b)).map Ieee.double.write = _
  by_cases ia : infB a
  · have ib : ¬ infB b := fun e => h1 ⟨ia, e⟩
    rw [read_inf a ha ia, read_fin b hb (fin_of nb ib)]
    unfold Ieee.Datum.quotient
    simp only [Option.map_some, write_inf]; rfl
  · have zb : zerB b := by
      rcases h with h | h
      · exact absurd h ia
      · exact h
    rw [read_fin a ha (fin_of na ia), read_fin b hb (fin_z zb), spM_zero.2 zb]
    unfold Ieee.Datum.quotient
    simp only
    rw [if_pos trivial, if_neg (fun e => h2 ⟨spM_zero.1 e, zb⟩)]
    simp only [Option.map_some, write_inf]; rfl
theorem quo_zero {a b : Nat} (ha : a < 18446744073709551616) (hb : b < 18446744073709551616) (na : nanB a = false) (nb : nanB b = false) (h : zerB a ∨ infB b) (h1 : ¬ infB a) (h2 : ¬ zerB b) :
    floatBits .quo .f64 a b = some (Ieee.double.word (xs a b) 0) := by
  show ((Ieee.double.read a).quotient _ (Ieee.double.read b)).map Ieee.double.write = _
  by_cases ib : infB b
  · rw [read_fin a ha (fin_of na h1), read_inf b hb ib]
    unfold Ieee.Datum.quotient
    simp only [Option.map_some, write_num, nr_zero]; rfl
  · have za : zerB a := by
      rcases h with h | h
      · exact h
      · exact absurd h ib
    rw [read_fin a ha (fin_of na h1), read_fin b hb (fin_of nb ib), spM_zero.2 za]
    unfold Ieee.Datum.quotient
    simp only
    rw [if_neg (fun e => h2 (spM_zero.1 e))]
    simp only [Option.map_some, write_num]
    simp only [Nat.zero_shiftLeft, Nat.zero_mod, Nat.zero_div, Nat.mul_zero, bne_self_eq_false, Bool.toNat_false, Nat.add_zero, nr_zero]
    rfl
theorem quo_fin {a b : Nat} (ha : a < 18446744073709551616) (hb : b < 18446744073709551616) (h1 : finB a) (h2 : finB b) (za : ¬ zerB a) (zb : ¬ zerB b) (u v : Nat) (h : spE a - spE b + 1074 = (u : Int) - (v : Int)) :
    floatBits .quo .f64 a b = some (Ieee.double.word (xs a b) (rd (spM a * 2 ^ u) (spM b * 2 ^ v))) := by
  show ((Ieee.double.read a).quotient _ (Ieee.double.read b)).map Ieee.double.write = _
  rw [read_fin a ha h1, read_fin b hb h2]
  unfold Ieee.Datum.quotient
  have hm : spM a ≠ 0 := fun e => za (spM_zero.1 e)
  have hn : spM b ≠ 0 := fun e => zb (spM_zero.1 e)
  simp only
  rw [if_neg hn]
  simp only [Option.map_some, write_num]
  have := nr_quot (spM a) (spM b) hm hn (spM_lt a) (spE a) (spE b) u v h
  rw [← this]
  rfl
end Go.Proofs.YtoonneminimbfaaGreatDoor
