/- emendref01.split. -/
import Derived.Test.YtoonneminimbfaaGreatDoorSmall
namespace Go.Proofs.YtoonneminimbfaaGreatDoor
open Go.RowKit
set_option linter.unusedVariables false
set_option linter.unusedSimpArgs false

def spM (b : Nat) : Nat := if b % 9223372036854775808 / 4503599627370496 = 0 then b % 4503599627370496 else b % 4503599627370496 + 4503599627370496
def spE (b : Nat) : Int := if b % 9223372036854775808 / 4503599627370496 = 0 then -1074 else ((b % 9223372036854775808 / 4503599627370496 : Nat) : Int) - 1075
theorem split_any (b : Nat) (hb : b < 18446744073709551616) (w : World) : Calls Tryz.prog 68 #[.int .u64 b] w fun e w' => e = .returned (.tuple #[.int .u64 (spM b), .int .i64 (spE b)]) ∧ w = w' := by
  go_enter Tryz.func68, Tryz.ntmps68
  go_wp2
  · have hx : ((b : Int) % 9223372036854775808 / 4503599627370496 == 0) = true := by assumption
    have h : b % 9223372036854775808 / 4503599627370496 = 0 := by have hx' : (b : Int) % 9223372036854775808 / 4503599627370496 = 0 := by simpa only [beq_iff_eq] using hx
                                                                  omega
    go_ret2
    exact ⟨by unfold spM spE; rw [if_pos h, if_pos h]; rfl, rfl⟩
  · have hx0 : ((b : Int) % 9223372036854775808 / 4503599627370496 == 0) = false := by assumption
    have hx : ¬ ((b : Int) % 9223372036854775808 / 4503599627370496 == 0) = true := by rw [hx0]; decide
    have h : ¬ b % 9223372036854775808 / 4503599627370496 = 0 := fun e => hx (by simp only [beq_iff_eq]; omega)
    go_ret2
    exact ⟨by unfold spM spE; rw [if_neg h, if_neg h]; rfl, rfl⟩
end Go.Proofs.YtoonneminimbfaaGreatDoor
