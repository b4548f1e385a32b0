/- emendref01.ToInt. -/
import Derived.Test.YtoonneminimbfaaGreatDoorTurns
namespace Go.Proofs.YtoonneminimbfaaGreatDoor
open Go.RowKit
set_option linter.unusedVariables false
set_option linter.unusedSimpArgs false

theorem refNan2 (b : Nat) (hb : b < 18446744073709551616) (w : World) : Calls Tryz.prog 67 #[.int .u64 b] w fun e w' => e = .returned (.bool (nanB b)) ∧ w = w' := by
  rw [nanB_is]
  exact refNan_any b hb w

/-- What the document's ToInt has found, and which way. -/
def UWay (m : Nat) (e : Int) (U : Nat) : Prop := (11 < e ∧ U = 18446744073709551615) ∨ (e ≤ 11 ∧ 0 ≤ e ∧ U = m * 2 ^ e.toNat) ∨ (e < 0 ∧ -64 < e ∧ U = m / 2 ^ (-e).toNat) ∨ (e ≤ -64 ∧ U = 0)
theorem uway_ok {b U : Nat} (h : UWay (spM b) (spE b) U) : U < 18446744073709551616 ∧ (9223372036854775808 ≤ U ↔ 9223372036854775808 ≤ tr b) ∧ (U < 9223372036854775808 → U = tr b) := by
  have hm := spM_lt b
  rcases h with ⟨h1, rfl⟩ | ⟨h1, h2, rfl⟩ | ⟨h1, h2, rfl⟩ | ⟨h1, rfl⟩
  · have : 9223372036854775808 ≤ tr b := by
      rw [tr_big]
      unfold spE at h1
      split at h1
      · omega
      · omega
    exact ⟨by omega, ⟨fun _ => this, fun _ => by omega⟩, fun h => by omega⟩
  · have e : tr b = spM b * 2 ^ (spE b).toNat := by
      unfold tr; rw [show (-spE b).toNat = 0 by omega, Nat.pow_zero, Nat.div_one]
    rw [e]
    have h3 : 2 ^ (spE b).toNat ≤ 2 ^ 11 := Nat.pow_le_pow_right (by decide) (by omega)
    have h4 : spM b * 2 ^ (spE b).toNat ≤ 9007199254740991 * 2 ^ 11 := Nat.mul_le_mul (by omega) h3
    exact ⟨by omega, Iff.rfl, fun _ => rfl⟩
  · have e : tr b = spM b / 2 ^ (-spE b).toNat := by
      unfold tr; rw [show (spE b).toNat = 0 by omega, Nat.pow_zero, Nat.mul_one]
    rw [e]
    have := Nat.div_le_self (spM b) (2 ^ (-spE b).toNat)
    exact ⟨by omega, Iff.rfl, fun _ => rfl⟩
  · have e : tr b = 0 := by
      unfold tr; rw [show (spE b).toNat = 0 by omega, Nat.pow_zero, Nat.mul_one]
      apply Nat.div_eq_of_lt
      have : 2 ^ 64 ≤ 2 ^ (-spE b).toNat := Nat.pow_le_pow_right (by decide) (by omega)
      omega
    rw [e]
    exact ⟨by omega, Iff.rfl, fun _ => rfl⟩

set_option maxRecDepth 100000 in
set_option maxHeartbeats 3200000 in
theorem refToInt_core (b m U : Nat) (e : Int) (N : Int) (s big : Bool) (w : World) (hm : m < 9007199254740992) (hU : U < 18446744073709551616) (he0 : -1074 ≤ e) (he1 : e ≤ 972)
    (hn : ∀ w, Calls Tryz.prog 67 #[.int .u64 b] w fun e w' => e = .returned (.bool false) ∧ w = w')
    (hs : ∀ w, Calls Tryz.prog 68 #[.int .u64 b] w fun r w' => r = .returned (.tuple #[.int .u64 m, .int .i64 e]) ∧ w = w')
    (hi : e ≤ 11 → ∀ w, Calls Tryz.prog 69 #[.int .u64 b] w fun e w' => e = .returned (.bool false) ∧ w = w')
    (hg : ∀ w, Calls Tryz.prog 70 #[.int .u64 b] w fun e w' => e = .returned (.bool s) ∧ w = w') (h : UWay m e U) (hb : decide (9223372036854775808 ≤ U) = big)
    (hN : N = if s then (if big then -9223372036854775808 else -(U : Int)) else (if big then 9223372036854775807 else (U : Int))) :
    Calls Tryz.prog 28 #[.int .u64 b] w fun e w' => e = .returned (.int .i64 N) ∧ w = w' := by
  have HN := Lib.hid hn
  have HS := Lib.hid hs
  have HG := Lib.hid hg
  have HNN := Lib.hid hN
  clear hn hs hg hN
  rcases h with ⟨h1, rfl⟩ | ⟨h1, h2, h3⟩ | ⟨h1, h2, h3⟩ | ⟨h1, rfl⟩
  · clear hi
    obtain rfl : big = true := by rw [← hb]; decide
    cases s
    all_goals
      go_enter Tryz.func28, Tryz.ntmps28
      go_wp2_with (first | (go_at_call 67; refine (HN.out _).mono ?_; rintro e w' ⟨rfl, rfl⟩) | (go_at_call 68; refine (HS.out _).mono ?_; rintro e w' ⟨rfl, rfl⟩) | (go_at_call 70; refine (HG.out _).mono ?_; rintro e w' ⟨rfl, rfl⟩))
      go_ret
      exact ⟨by rw [HNN.out]; rfl, rfl⟩
  · have HI := Lib.hid (hi h1)
    clear hi
    obtain ⟨k, rfl⟩ : ∃ k : Nat, e = (k : Int) := ⟨e.toNat, by omega⟩
    have hk : k ≤ 11 := by omega
    have hsh : IntKind.u64.wrap ((m : Int) * 2 ^ k) = (U : Int) := by
      have : (m : Int) * 2 ^ k = (U : Int) := by rw [h3, show ((k : Int)).toNat = k by omega]; push_cast; rfl
      rw [this]; simp only [IntKind.wrap, IntKind.bits, IntKind.signed]; simp; omega
    clear h3
    cases big with
    | true =>
      have hU1 : (9223372036854775808 : Int) ≤ (U : Int) := by have := of_decide_eq_true hb; omega
      have hm2 : m < 18446744073709551616 := by omega
      clear hb hm
      cases s
      all_goals
        go_enter Tryz.func28, Tryz.ntmps28
        go_wp2_with (first | (go_at_call 67; refine (HN.out _).mono ?_; rintro e w' ⟨rfl, rfl⟩) | (go_at_call 68; refine (HS.out _).mono ?_; rintro e w' ⟨rfl, rfl⟩) | (go_at_call 69; refine (HI.out _).mono ?_; rintro e w' ⟨rfl, rfl⟩) | (go_at_call 70; refine (HG.out _).mono ?_; rintro e w' ⟨rfl, rfl⟩))
        go_ret
        exact ⟨by rw [HNN.out]; rfl, rfl⟩
    | false =>
      have hU1 : ¬ (9223372036854775808 : Int) ≤ (U : Int) := by have := of_decide_eq_false hb; omega
      have hU4 : decide ((U : Int) ≥ 9223372036854775808) = false := by simpa using hU1
      have hU5 : decide ((9223372036854775808 : Int) ≤ (U : Int)) = false := by simpa using hU1
      have hU2 : IntKind.i64.wrap (U : Int) = (U : Int) := by simp only [IntKind.wrap, IntKind.bits, IntKind.signed]; simp; omega
      have hU3 : IntKind.i64.wrap (-(U : Int)) = -(U : Int) := by simp only [IntKind.wrap, IntKind.bits, IntKind.signed]; simp; omega
      have hm2 : m < 18446744073709551616 := by omega
      clear hb hm hU1 hU
      cases s
      all_goals
        go_enter Tryz.func28, Tryz.ntmps28
        go_wp2_with (first | (go_at_call 67; refine (HN.out _).mono ?_; rintro e w' ⟨rfl, rfl⟩) | (go_at_call 68; refine (HS.out _).mono ?_; rintro e w' ⟨rfl, rfl⟩) | (go_at_call 69; refine (HI.out _).mono ?_; rintro e w' ⟨rfl, rfl⟩) | (go_at_call 70; refine (HG.out _).mono ?_; rintro e w' ⟨rfl, rfl⟩))
        go_ret
        exact ⟨by rw [HNN.out]; rfl, rfl⟩
  · have HI := Lib.hid (hi (by omega))
    clear hi
    obtain ⟨k, hk⟩ : ∃ k : Nat, -e = (k : Int) := ⟨(-e).toNat, by omega⟩
    have hk2 : k ≤ 64 := by omega
    have hsh : (m : Int) / 2 ^ k = (U : Int) := by rw [h3, show ((-e)).toNat = k by omega]; push_cast; rfl
    have hke : IntKind.i64.wrap (-e) = (k : Int) := by rw [hk]; simp only [IntKind.wrap, IntKind.bits, IntKind.signed]; simp; omega
    have hUm : U ≤ m := by rw [h3]; exact Nat.div_le_self _ _
    clear h3
    cases big with
    | true =>
      exfalso
      have := of_decide_eq_true hb
      omega
    | false =>
      have hU1 : ¬ (9223372036854775808 : Int) ≤ (U : Int) := by have := of_decide_eq_false hb; omega
      have hU4 : decide ((U : Int) ≥ 9223372036854775808) = false := by simpa using hU1
      have hU5 : decide ((9223372036854775808 : Int) ≤ (U : Int)) = false := by simpa using hU1
      have hU2 : IntKind.i64.wrap (U : Int) = (U : Int) := by simp only [IntKind.wrap, IntKind.bits, IntKind.signed]; simp; omega
      have hU3 : IntKind.i64.wrap (-(U : Int)) = -(U : Int) := by simp only [IntKind.wrap, IntKind.bits, IntKind.signed]; simp; omega
      have hm2 : m < 18446744073709551616 := by omega
      clear hb hm hU1 hU
      cases s
      all_goals
        go_enter Tryz.func28, Tryz.ntmps28
        go_wp2_with (first | (go_at_call 67; refine (HN.out _).mono ?_; rintro e w' ⟨rfl, rfl⟩) | (go_at_call 68; refine (HS.out _).mono ?_; rintro e w' ⟨rfl, rfl⟩) | (go_at_call 69; refine (HI.out _).mono ?_; rintro e w' ⟨rfl, rfl⟩) | (go_at_call 70; refine (HG.out _).mono ?_; rintro e w' ⟨rfl, rfl⟩))
        go_ret
        exact ⟨by rw [HNN.out]; rfl, rfl⟩
  · have HI := Lib.hid (hi (by omega))
    clear hi
    obtain rfl : big = false := by rw [← hb]; decide
    have h2 : ¬ -64 < e := by omega
    clear hm
    cases s
    all_goals
      go_enter Tryz.func28, Tryz.ntmps28
      go_wp2_with (first | (go_at_call 67; refine (HN.out _).mono ?_; rintro e w' ⟨rfl, rfl⟩) | (go_at_call 68; refine (HS.out _).mono ?_; rintro e w' ⟨rfl, rfl⟩) | (go_at_call 69; refine (HI.out _).mono ?_; rintro e w' ⟨rfl, rfl⟩) | (go_at_call 70; refine (HG.out _).mono ?_; rintro e w' ⟨rfl, rfl⟩))
      go_ret
      exact ⟨by rw [HNN.out]; rfl, rfl⟩

theorem refToInt_nan (b : Nat) (hb : b < 18446744073709551616) (hn : nanB b = true) (w : World) : Calls Tryz.prog 28 #[.int .u64 b] w fun e w' => e = .returned (.int .i64 0) ∧ w = w' := by
  have HN := Lib.hid (refNan2 b hb w)
  rw [hn] at HN
  clear hn
  go_enter Tryz.func28, Tryz.ntmps28
  go_wp2_with (go_at_call 67; refine HN.out.mono ?_; rintro e w' ⟨rfl, rfl⟩)
  go_ret
  exact ⟨rfl, rfl⟩
theorem spE_lo (b : Nat) : -1074 ≤ spE b := by unfold spE; split <;> omega
theorem spE_hi (b : Nat) (hb : b < 18446744073709551616) (hn : nanB b = false) : spE b ≤ 972 := by
  have h : ¬ b % 9223372036854775808 > 9218868437227405312 := by rw [nanB_is] at hn; simpa using hn
  unfold spE; split <;> omega
theorem refToInt_any (b : Nat) (hb : b < 18446744073709551616) (w : World) : Calls Tryz.prog 28 #[.int .u64 b] w fun e w' => e = .returned (.int .i64 (toI b)) ∧ w = w' := by
  by_cases hn : nanB b = true
  · have : toI b = 0 := by unfold toI; rw [if_pos hn]
    rw [this]
    exact refToInt_nan b hb hn w
  · have hn' : nanB b = false := by simpa using hn
    obtain ⟨U, hU⟩ : ∃ U, UWay (spM b) (spE b) U := by
      unfold UWay
      by_cases h1 : 11 < spE b
      · exact ⟨_, .inl ⟨h1, rfl⟩⟩
      · by_cases h2 : 0 ≤ spE b
        · exact ⟨_, .inr (.inl ⟨by omega, h2, rfl⟩)⟩
        · by_cases h3 : -64 < spE b
          · exact ⟨_, .inr (.inr (.inl ⟨by omega, h3, rfl⟩))⟩
          · exact ⟨_, .inr (.inr (.inr ⟨by omega, rfl⟩))⟩
    obtain ⟨u1, u2, u3⟩ := uway_ok hU
    refine refToInt_core b (spM b) U (spE b) (toI b) (decide (9223372036854775808 ≤ b)) (decide (9223372036854775808 ≤ U)) w (spM_lt b) u1 (spE_lo b) (spE_hi b hb hn') (fun w => by have := refNan2 b hb w; rwa [hn'] at this) (fun w => split_any b hb w)
      (fun he w => ?_) (fun w => refNeg_any b w) hU rfl ?_
    · have := refInf_any b w
      have hi : decide (b % 9223372036854775808 = 9218868437227405312) = false := by
        apply decide_eq_false
        intro e
        unfold spE at he
        rw [e, if_neg (by decide)] at he
        omega
      rwa [hi] at this
    · unfold toI
      rw [if_neg hn]
      by_cases hg : 9223372036854775808 ≤ U
      · rw [decide_eq_true hg]
        simp only [if_pos (u2.1 hg)]
        by_cases h : 9223372036854775808 ≤ b
        · rw [decide_eq_true h, if_pos h]; rfl
        · rw [decide_eq_false h, if_neg h]; rfl
      · rw [decide_eq_false hg]
        have h2 : ¬ 9223372036854775808 ≤ tr b := fun h => hg (u2.2 h)
        rw [← u3 (by omega)] at h2 ⊢
        simp only [if_neg h2]
        by_cases h : 9223372036854775808 ≤ b
        · rw [decide_eq_true h, if_pos h]; rfl
        · rw [decide_eq_false h, if_neg h]; rfl
end Go.Proofs.YtoonneminimbfaaGreatDoor
