/- emendref01's small tests on bits. -/
import Derived.Test.YtoonneminimbfaaGreatDoorRanks
namespace Go.Proofs.YtoonneminimbfaaGreatDoor
open Go.RowKit
set_option linter.unusedVariables false
set_option linter.unusedSimpArgs false

theorem refInf_any (b : Nat) (w : World) : Calls Tryz.prog 69 #[.int .u64 b] w fun e w' => e = .returned (.bool (decide (b % 9223372036854775808 = 9218868437227405312))) ∧ w = w' := by
  go_enter Tryz.func69, Tryz.ntmps69
  go_wp2
  go_ret
  exact ⟨by apply ret_bool; rw [Bool.eq_iff_iff]; simp; omega, rfl⟩
theorem refZero_any (b : Nat) (w : World) : Calls Tryz.prog 73 #[.int .u64 b] w fun e w' => e = .returned (.bool (decide (b % 9223372036854775808 = 0))) ∧ w = w' := by
  go_enter Tryz.func73, Tryz.ntmps73
  go_wp2
  go_ret
  exact ⟨by apply ret_bool; rw [Bool.eq_iff_iff]; simp; omega, rfl⟩
theorem refNeg_any (b : Nat) (w : World) : Calls Tryz.prog 70 #[.int .u64 b] w fun e w' => e = .returned (.bool (decide (9223372036854775808 ≤ b))) ∧ w = w' := by
  go_enter Tryz.func70, Tryz.ntmps70
  go_wp2
  go_ret
  exact ⟨by apply ret_bool; rw [Bool.eq_iff_iff]; simp; try omega, rfl⟩
theorem signed_true (b : Nat) (hb : b < 9223372036854775808) (w : World) : Calls Tryz.prog 74 #[.bool true, .int .u64 b] w fun e w' => e = .returned (.int .u64 (b + 9223372036854775808 : Nat)) ∧ w = w' := by
  go_enter Tryz.func74, Tryz.ntmps74
  go_wp2
  go_ret
  exact ⟨by first | rfl | (apply ret_int; push_cast; rfl), rfl⟩
theorem signed_false (b : Nat) (w : World) : Calls Tryz.prog 74 #[.bool false, .int .u64 b] w fun e w' => e = .returned (.int .u64 b) ∧ w = w' := by
  go_enter Tryz.func74, Tryz.ntmps74
  go_wp2
  go_ret
  exact ⟨rfl, rfl⟩
theorem place_pos (b : Nat) (hb : b < 9223372036854775808) (w : World) : Calls Tryz.prog 79 #[.int .u64 b] w fun e w' => e = .returned (.int .i64 (pl b)) ∧ w = w' := by
  have HN := Lib.hid (fun w => refNeg_any b w)
  have hd : decide (9223372036854775808 ≤ b) = false := by simp; omega
  have hp : pl b = (b : Int) := by unfold pl sgn; rw [hd, Nat.mod_eq_of_lt hb]; rfl
  rw [hd] at HN
  go_enter Tryz.func79, Tryz.ntmps79
  go_wp2_with (go_at_call 70; refine (HN.out _).mono ?_; rintro e w1 ⟨rfl, rfl⟩)
  go_ret
  exact ⟨by rw [hp]; rfl, rfl⟩
theorem place_neg (b : Nat) (h0 : 9223372036854775808 ≤ b) (hb : b < 18446744073709551616) (w : World) : Calls Tryz.prog 79 #[.int .u64 b] w fun e w' => e = .returned (.int .i64 (pl b)) ∧ w = w' := by
  have HN := Lib.hid (fun w => refNeg_any b w)
  have hd : decide (9223372036854775808 ≤ b) = true := by simpa using h0
  obtain ⟨r, rfl⟩ : ∃ r, b = r + 9223372036854775808 := ⟨b - 9223372036854775808, by omega⟩
  have hp : pl (r + 9223372036854775808) = -(r : Int) := by unfold pl sgn; rw [hd, if_pos rfl]; omega
  rw [hd] at HN
  have e1 : (((r + 9223372036854775808 : Nat) : Int)) - 9223372036854775808 = (r : Int) := by omega
  go_enter Tryz.func79, Tryz.ntmps79
  go_wp2_with (go_at_call 70; refine (HN.out _).mono ?_; rintro e w1 ⟨rfl, rfl⟩)
  go_ret
  exact ⟨by rw [hp]; rfl, rfl⟩
theorem place_any (b : Nat) (hb : b < 18446744073709551616) (w : World) : Calls Tryz.prog 79 #[.int .u64 b] w fun e w' => e = .returned (.int .i64 (pl b)) ∧ w = w' := by
  by_cases h : b < 9223372036854775808
  · exact place_pos b h w
  · exact place_neg b (by omega) hb w
end Go.Proofs.YtoonneminimbfaaGreatDoor
