/- emendref07.ahead. -/
import Derived.Test.YtfflfbnnohlipaaBase
namespace Go.Proofs.Ytfflfbnnohlipaa
open Go.RowKit
set_option linter.unusedVariables false
set_option linter.unusedSimpArgs false

/-- Does a splice stand ahead of another one in order? -/
def aheadV (x y : Spl) : Bool := decide (x.frm < y.frm) || (decide (x.frm = y.frm) && decide (x.to < y.to))

set_option maxRecDepth 100000 in
set_option maxHeartbeats 1600000 in
theorem ahead_any (x y : Spl) (w : World) :
    Calls Try.prog 46 #[.agg #[.int .i64 x.frm, .int .i64 x.to, .string x.text], .agg #[.int .i64 y.frm, .int .i64 y.to, .string y.text]] w fun e w' => e = .returned (.bool (aheadV x y)) ∧ Below w.heap.size w w' := by
  by_cases h1 : x.frm < y.frm
  · have ha : aheadV x y = true := by simp [aheadV, h1]
    have HA := Lib.hid ha
    clear ha
    go_enter Try.func46, Try.ntmps46
    go_wp2
    go_ret
    exact ⟨ret_bool HA.out.symm, ((Below.refl _ _).alloc (Nat.le_refl _) _).alloc (by simp) _⟩
  · by_cases h2 : x.frm = y.frm
    · by_cases h3 : x.to < y.to
      · have ha : aheadV x y = true := by simp [aheadV, h2, h3]
        have HA := Lib.hid ha
        clear ha
        go_enter Try.func46, Try.ntmps46
        go_wp2
        go_ret
        exact ⟨ret_bool HA.out.symm, ((Below.refl _ _).alloc (Nat.le_refl _) _).alloc (by simp) _⟩
      · have ha : aheadV x y = false := by simp [aheadV, h2]; omega
        have HA := Lib.hid ha
        clear ha
        go_enter Try.func46, Try.ntmps46
        go_wp2
        go_ret
        exact ⟨ret_bool HA.out.symm, ((Below.refl _ _).alloc (Nat.le_refl _) _).alloc (by simp) _⟩
    · have ha : aheadV x y = false := by simp [aheadV, h2]; omega
      have HA := Lib.hid ha
      clear ha
      go_enter Try.func46, Try.ntmps46
      go_wp2
      go_ret
      exact ⟨ret_bool HA.out.symm, ((Below.refl _ _).alloc (Nat.le_refl _) _).alloc (by simp) _⟩
end Go.Proofs.Ytfflfbnnohlipaa
