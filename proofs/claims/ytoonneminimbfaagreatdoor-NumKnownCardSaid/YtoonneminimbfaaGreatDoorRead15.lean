/- internal/strconv's reading of the text 1.5. -/
import Derived.Test.YtoonneminimbfaaGreatDoorShelf
import Derived.Test.YtoonneminimbfaaGreatDoorDigits
namespace Go.Proofs.YtoonneminimbfaaGreatDoor
open Go.RowKit
set_option linter.unusedVariables false
set_option linter.unusedSimpArgs false

set_option maxRecDepth 1000000 in
set_option maxHeartbeats 3200000 in
theorem read15 (w : World) : Calls Tryz.prog 135 #[.string ⟨#[49, 46, 53]⟩] w fun e w' => e = .returned (.tuple #[.int .u64 15, .int .i64 (-1), .bool false, .bool false, .bool false, .int .i64 3, .bool true]) ∧ w = w' := by
  go_enter Tryz.func135, Tryz.ntmps135
  go_wp2_with fail
  go_step3
  go_wp2_with fail
  go_step3
  go_wp2_with fail
  go_loop [2, 5, 7, 9, 13, 14, 15, 16, 17, 18] (fun mant trunc i und dot dig nd ndm dp _ => trunc = .bool false ∧ und = .bool false ∧
    ((i = .int .i64 0 ∧ mant = .int .u64 0 ∧ dot = .bool false ∧ dig = .bool false ∧ nd = .int .i64 0 ∧ ndm = .int .i64 0 ∧ dp = .int .i64 0) ∨
     (i = .int .i64 1 ∧ mant = .int .u64 1 ∧ dot = .bool false ∧ dig = .bool true ∧ nd = .int .i64 1 ∧ ndm = .int .i64 1 ∧ dp = .int .i64 0) ∨
     (i = .int .i64 2 ∧ mant = .int .u64 1 ∧ dot = .bool true ∧ dig = .bool true ∧ nd = .int .i64 1 ∧ ndm = .int .i64 1 ∧ dp = .int .i64 1) ∨
     (i = .int .i64 3 ∧ mant = .int .u64 15 ∧ dot = .bool true ∧ dig = .bool true ∧ nd = .int .i64 2 ∧ ndm = .int .i64 2 ∧ dp = .int .i64 1)))
    (fun _ _ i _ _ _ _ _ _ _ => 3 - (intOf i).toNat)
  case atStart => exact ⟨rfl, rfl, .inl ⟨rfl, rfl, rfl, rfl, rfl, rfl, rfl⟩⟩
  case round =>
    obtain ⟨rfl, rfl, h⟩ := hrel
    rcases h with ⟨rfl, rfl, rfl, rfl, rfl, rfl, rfl⟩ | ⟨rfl, rfl, rfl, rfl, rfl, rfl, rfl⟩ | ⟨rfl, rfl, rfl, rfl, rfl, rfl, rfl⟩ | ⟨rfl, rfl, rfl, rfl, rfl, rfl, rfl⟩
    · go_wp2_with fail
      go_round
      case rel => exact ⟨rfl, rfl, .inr (.inl ⟨rfl, rfl, rfl, rfl, rfl, rfl, rfl⟩)⟩
      case measure => simp [intOf]
    · go_wp2_with fail
      go_round
      case rel => exact ⟨rfl, rfl, .inr (.inr (.inl ⟨rfl, rfl, rfl, rfl, rfl, rfl, rfl⟩))⟩
      case measure => simp [intOf]
    · go_wp2_with fail
      go_round
      case rel => exact ⟨rfl, rfl, .inr (.inr (.inr ⟨rfl, rfl, rfl, rfl, rfl, rfl, rfl⟩))⟩
      case measure => simp [intOf]
    · go_wp2_with fail
      go_outline
      first | rw [Exit.noGoto_ret] | skip
      exact bodyPost_ret (v := .tuple #[.int .u64 15, .int .i64 (-1), .bool false, .bool false, .bool false, .int .i64 3, .bool true]) (by simp [results, Tryz.results135, go_sem]) rfl ⟨rfl, rfl⟩
end Go.Proofs.YtoonneminimbfaaGreatDoor
