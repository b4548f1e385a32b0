/- The law NumTurns. -/
import Derived.Test.YtoonneminimbfaaGreatDoorTurns2
import Derived.Test.YtoonneminimbfaaGreatDoorBack
namespace Go.Proofs.YtoonneminimbfaaGreatDoor
open Go.RowKit
set_option linter.unusedVariables false
set_option linter.unusedSimpArgs false

set_option maxRecDepth 1000000 in
set_option maxHeartbeats 3200000 in
theorem lawTurns (a : Int) (b : Nat) (w : World) (ha0 : -9223372036854775808 ≤ a) (ha1 : a ≤ 9223372036854775807) (hb : b < 18446744073709551616) (h : Glob w) :
    Calls Tryz.prog 6 #[.int .i64 a, .int .u64 b] w fun e w' => e = .returned (.bool true) ∧ Below w.heap.size w w' := by
  have HT := Lib.hid (toFloat_any a ha0 ha1 w)
  have HR := Lib.hid (fun w' hb => later (w := w) hb (refToFloat_any a ha0 ha1 w'))
  have hx := tf_lt a ha0 ha1
  have HS := Lib.hid (show_all (tf a) hx w h)
  have HQ := Lib.hid (fun w' hb' => later (w := w) hb' (refShow_all (tf a) hx w'))
  have HI := Lib.hid (fun w' => toInt_any b hb w')
  have HJ := Lib.hid (fun w' => refToInt_any b hb w')
  have HW := Lib.hid (fun w' hb' => glob_awake w w' h hb')
  have hf := frombits_run b
  clear hx
  generalize wide (canon (tf a)) = s at *
  generalize tf a = x at *
  generalize toI b = y at *
  clear h
  go_enter Tryz.func6, Tryz.ntmps6
  go_wp2_with (first | (go_at_call 24; refine HT.out.mono ?_; rintro e w1 ⟨rfl, rfl⟩) | (go_at_call 21; refine HS.out.mono ?_; rintro e w2 ⟨rfl, hb2⟩) | (go_at_call 27; refine (HR.out _ hb2).mono ?_; rintro e w3 ⟨rfl, hb3⟩) | (go_at_call 23; refine (HQ.out _ hb3).mono ?_; rintro e w4 ⟨rfl, hb4⟩) | (go_at_call 26; refine (HI.out _).mono ?_; rintro e w5 ⟨rfl, rfl⟩) | (go_at_call 28; refine (HJ.out _).mono ?_; rintro e w6 ⟨rfl, rfl⟩) | (go_at_call 18; refine (HW.out _ hb4).mono ?_; rintro e w7 ⟨rfl, hb7⟩))
  go_ret
  exact ⟨rfl, hb7⟩
end Go.Proofs.YtoonneminimbfaaGreatDoor
