/- emendlaw01.NumRing: the walk. -/
import Derived.Test.YtoonneminimbfaaGreatDoorAwake
namespace Go.Proofs.YtoonneminimbfaaGreatDoor
open Go.RowKit
set_option linter.unusedVariables false
set_option linter.unusedSimpArgs false

theorem wrap_bmod (n : Int) : wrap64 n = Int.bmod n 18446744073709551616 := by
  unfold wrap64
  rw [Int.bmod_def]
  split <;> omega
theorem wrap_add_l (x y : Int) : wrap64 (wrap64 x + y) = wrap64 (x + y) := by simp only [wrap_bmod, Int.bmod_add_bmod]
theorem wrap_add_r (x y : Int) : wrap64 (x + wrap64 y) = wrap64 (x + y) := by simp only [wrap_bmod, Int.add_bmod_bmod]
theorem wrap_sub_l (x y : Int) : wrap64 (wrap64 x - y) = wrap64 (x - y) := by rw [Int.sub_eq_add_neg, wrap_add_l, Int.sub_eq_add_neg]
theorem wrap_mul_l (x y : Int) : wrap64 (wrap64 x * y) = wrap64 (x * y) := by simp only [wrap_bmod, Int.bmod_mul_bmod]
theorem wrap_mul_r (x y : Int) : wrap64 (x * wrap64 y) = wrap64 (x * y) := by simp only [wrap_bmod, Int.mul_bmod_bmod]
theorem wrap_in (x : Int) (h0 : -9223372036854775808 ≤ x) (h1 : x ≤ 9223372036854775807) : wrap64 x = x := by unfold wrap64; omega

set_option maxRecDepth 1000000 in
set_option maxHeartbeats 3200000 in
theorem lawRing (a b c : Int) (w : World) (ha0 : -9223372036854775808 ≤ a) (ha1 : a ≤ 9223372036854775807) (h : Glob w) :
    Calls Tryz.prog 7 #[.int .i64 a, .int .i64 b, .int .i64 c] w fun e w' => e = .returned (.bool true) ∧ Below w.heap.size w w' := by
  have HW := Lib.hid (awake_any w h)
  have A := Lib.hid (fun x y => add_any x y w)
  have S := Lib.hid (fun x y => sub_any x y w)
  have M := Lib.hid (fun x y => mul_any x y w)
  have N := Lib.hid (fun x => neg_any x w)
  have e1 : wrap64 (b + a) = wrap64 (a + b) := by rw [Int.add_comm]
  have e2 : wrap64 (b * a) = wrap64 (a * b) := by rw [Int.mul_comm]
  have e3 : wrap64 (wrap64 (a + b) - b) = a := by rw [wrap_sub_l, show a + b - b = a by omega, wrap_in a ha0 ha1]
  have e4 : wrap64 (a + wrap64 (-a)) = 0 := by rw [wrap_add_r, show a + -a = 0 by omega]; exact wrap_in 0 (by omega) (by omega)
  have e5 : wrap64 (a + wrap64 (-b)) = wrap64 (a - b) := by rw [wrap_add_r, Int.sub_eq_add_neg]
  have e6 : wrap64 (a + wrap64 (b + c)) = wrap64 (wrap64 (a + b) + c) := by rw [wrap_add_r, wrap_add_l, Int.add_assoc]
  have e7 : wrap64 (a * wrap64 (b * c)) = wrap64 (wrap64 (a * b) * c) := by rw [wrap_mul_r, wrap_mul_l, Int.mul_assoc]
  have e8 : wrap64 (wrap64 (a * b) + wrap64 (a * c)) = wrap64 (a * wrap64 (b + c)) := by rw [wrap_add_l, wrap_add_r, wrap_mul_r, Int.mul_add]
  have e9 : wrap64 (a * 1) = a := by rw [Int.mul_one, wrap_in a ha0 ha1]
  have e10 : wrap64 a = a := wrap_in a ha0 ha1
  clear h
  go_enter Tryz.func7, Tryz.ntmps7
  go_wp2_with (first | (go_at_call 29; refine (A.out _ _).mono ?_; rintro e w' ⟨rfl, rfl⟩) | (go_at_call 30; refine (M.out _ _).mono ?_; rintro e w' ⟨rfl, rfl⟩) | (go_at_call 31; refine (S.out _ _).mono ?_; rintro e w' ⟨rfl, rfl⟩) | (go_at_call 32; refine (N.out _).mono ?_; rintro e w' ⟨rfl, rfl⟩) | (go_at_call 18; refine HW.out.mono ?_; rintro e w1 ⟨rfl, hb⟩))
  go_ret
  exact ⟨rfl, hb⟩
end Go.Proofs.YtoonneminimbfaaGreatDoor
