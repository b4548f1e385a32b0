/- emendlaw07.awake. -/
import Derived.Test.YtfflfbnnohlipaaApply
import Derived.Test.YtfflfbnnohlipaaMove2
import Derived.Test.YtfflfbnnohlipaaSome
namespace Go.Proofs.Ytfflfbnnohlipaa
open Go.RowKit
set_option linter.unusedVariables false
set_option linter.unusedSimpArgs false

def abc : ByteArray := ⟨#[97, 98, 99, 100, 101, 102]⟩
theorem aw_apply : applyE abc someL = 0 ∧ applyB abc someL = ⟨#[97, 88, 89, 90, 100, 101, 102]⟩ := by decide +kernel
theorem aw_moved : goodAt someL 3 = true ∧ movedI someL 3 = 4 := by decide +kernel
theorem aw_check : checkV 6 someL = 0 := by decide +kernel
theorem aw_fit : fitsV (maxTo someL 0) someL = true := by decide +kernel

theorem aw_apply_any (A : Option Addr) (c : Nat) (w : World) (hr : Row w w.heap.size A someL) :
    Calls Try.prog 16 #[.string ⟨#[97, 98, 99, 100, 101, 102]⟩, .slice A 3 c] w fun e w' => e = .returned (.tuple #[.string ⟨#[97, 88, 89, 90, 100, 101, 102]⟩, .int .i64 0]) ∧ Below w.heap.size w w' :=
  (apply_any A c someL abc w (by decide) (by decide +kernel) hr).mono fun e w' ⟨h, hb⟩ => ⟨by rw [h, aw_apply.1, aw_apply.2], hb⟩
theorem aw_moved_any (A : Option Addr) (c : Nat) (w : World) (hr : Row w w.heap.size A someL) :
    Calls Try.prog 12 #[.slice A 3 c, .int .i64 3] w fun e w' => e = .returned (.tuple #[.int .i64 4, .bool true]) ∧ Below w.heap.size w w' :=
  (moved_yes A c someL 3 w (by decide) (by intro x hx; simp [someL] at hx; rcases hx with rfl | rfl | rfl <;> decide) hr (.inr aw_fit)).mono fun e w' ⟨h, hb⟩ => ⟨by rw [h, aw_moved.1, aw_moved.2], hb⟩
theorem aw_check_any (A : Option Addr) (c : Nat) (w : World) (hr : Row w w.heap.size A someL) :
    Calls Try.prog 18 #[.int .i64 6, .slice A 3 c] w fun e w' => e = .returned (.int .i64 0) ∧ Below w.heap.size w w' :=
  (check_any 6 A c someL w (by decide) hr).mono fun e w' ⟨h, hb⟩ => ⟨by rw [h, aw_check], hb⟩

set_option maxHeartbeats 1600000 in
theorem awake_any (w : World) : Calls Try.prog 14 #[] w fun e w' => e = .returned (.bool true) ∧ Below w.heap.size w w' := by
  go_enter Try.func14, Try.ntmps14
  go_wp2_with fail
  refine (some_any _).mono ?_
  rintro e w1 ⟨⟨A1, c1, rfl, r1⟩, hb1⟩
  go_wp2_with fail
  refine (aw_apply_any _ _ _ r1).mono ?_
  rintro e w2 ⟨rfl, hb2⟩
  clear r1
  go_wp2_with fail
  refine (some_any _).mono ?_
  rintro e w3 ⟨⟨A3, c3, rfl, r3⟩, hb3⟩
  go_wp2_with fail
  refine (aw_moved_any _ _ _ r3).mono ?_
  rintro e w4 ⟨rfl, hb4⟩
  clear r3
  go_wp2_with fail
  refine (some_any _).mono ?_
  rintro e w5 ⟨⟨A5, c5, rfl, r5⟩, hb5⟩
  go_wp2_with fail
  refine (aw_check_any _ _ _ r5).mono ?_
  rintro e w6 ⟨rfl, hb6⟩
  go_wp2_with fail
  go_ret
  have s1 := hb1.size
  have s2 := hb2.size
  have s3 := hb3.size
  have s4 := hb4.size
  have s5 := hb5.size
  exact ⟨rfl, ((((hb1.trans (hb2.mono (by omega))).trans (hb3.mono (by omega))).trans (hb4.mono (by omega))).trans (hb5.mono (by omega))).trans (hb6.mono (by omega))⟩
end Go.Proofs.Ytfflfbnnohlipaa
