/- Whole numbers as floats, and back. num.ToInt of any float. emendref01.ToFloat, ToInt. -/
import Derived.Test.YtclbmmiedihepaaGreatDoorQG
import Derived.Test.YtclbmmiedihepaaGreatDoorQH
namespace Go.Proofs.YtclbmmiedihepaaGreatDoor
section
open Go.RowKit
set_option linter.unusedVariables false
set_option linter.unusedSimpArgs false
/-- A whole number's float. -/
def tf (a : Int) : Nat := Ieee.double.word (decide (a < 0)) (rungI a.natAbs)
theorem floatOfInt_tf (a : Int) (h0 : -9223372036854775808 ≤ a) (h1 : a ≤ 9223372036854775807) : floatOfInt .f64 a = tf a := by
 show Ieee.double.nearest (decide (a < 0)) a.natAbs 0 = _
 rw [nearest_int _ _ (by omega)]; rfl
def R (a : Int) : Int := sgn (decide (a < 0)) (rungI a.natAbs)
/-! ### Back -/
end

section
open Go.RowKit
set_option linter.unusedVariables false
set_option linter.unusedSimpArgs false
/-- What stands ahead of the point. -/
def tr (b : Nat) : Nat := spM b * 2 ^ (spE b).toNat / 2 ^ (-spE b).toNat
end

section
open Go.RowKit
set_option linter.unusedVariables false
set_option linter.unusedSimpArgs false
theorem of_one (w : World) : Calls Tryz.prog 88 #[.int .u64 1] w fun e w' => RetBig 1 e w' ∧ Below w.heap.size w w' := of_big 1 (by decide) w
end
end Go.Proofs.YtclbmmiedihepaaGreatDoor
