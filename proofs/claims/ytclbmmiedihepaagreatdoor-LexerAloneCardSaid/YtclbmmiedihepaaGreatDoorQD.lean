/- emendref01.Size, Text, Show. -/
import Derived.Test.YtclbmmiedihepaaGreatDoorQC
import Derived.Test.YtclbmmiedihepaaGreatDoorQA
namespace Go.Proofs.YtclbmmiedihepaaGreatDoor
open Go.RowKit
set_option linter.unusedVariables false
set_option linter.unusedSimpArgs false
/-! ### Show -/
theorem order_self (d : Ieee.Datum) : d.order d = if d.isNaN then none else some .eq := by
 cases d with
 | nan s t => rfl
 | infinity s => cases s <;> rfl
 | number s m i =>
  simp only [Ieee.Datum.order, Ieee.Datum.isNaN, Std.ReflCmp.compare_self]
  rfl
theorem read_nan (b : Nat) : (Ieee.double.read b).isNaN = decide (b % 9223372036854775808 > 9218868437227405312) := by
 have h1 : Ieee.double.signWeight = 9223372036854775808 := by decide
 have h2 : Ieee.double.infRung = 9218868437227405312 := by decide
 have h3 : Ieee.double.binade = 4503599627370496 := by decide
 unfold Ieee.Format.read
 simp only [h1, h2, h3]
 split
 · simp [Ieee.Datum.isNaN]; omega
 · split
   · simp [Ieee.Datum.isNaN]; omega
   · split
     · simp [Ieee.Datum.isNaN]; omega
     · simp [Ieee.Datum.isNaN]; omega
theorem nanB_is (b : Nat) : nanB b = decide (b % 9223372036854775808 > 9218868437227405312) := by
 unfold nanB Ieee.Format.order
 rw [order_self, show FloatKind.f64.format = Ieee.double from rfl, read_nan]
 by_cases h : b % 9223372036854775808 > 9218868437227405312 <;> simp [h]
end Go.Proofs.YtclbmmiedihepaaGreatDoor
