/- num.Float of the text 1.5. -/
import Derived.Test.YtoonneminimbfaaGreatDoorRead15
namespace Go.Proofs.YtoonneminimbfaaGreatDoor
open Go.RowKit
set_option linter.unusedVariables false
set_option linter.unusedSimpArgs false

/-- What the library's variables hold that are read here: the greatest length for a search, float64's width, whether there are short ways, the powers of ten. -/
structure Knows (w : World) : Prop where
  maxlen : ∃ m, w.cell? ⟨4, 0, none⟩ = some (.int .i64 m)
  width : w.cell? ⟨7, 0, none⟩ = some (.int .u64 52)
  ways : w.cell? ⟨6, 0, none⟩ = some (.bool true)
  pows : ∃ pb po c, w.cell? ⟨10, 0, none⟩ = some (.slice (some ⟨pb, po, none⟩) 23 c) ∧ w.cell? ⟨pb, po + 1, none⟩ = some (.float .f64 4621819117588971520)

set_option maxRecDepth 1000000 in
set_option maxHeartbeats 1600000 in
theorem special15 (w : World) : Calls Tryz.prog 134 #[.string ⟨#[49, 46, 53]⟩] w fun e w' => e = .returned (.tuple #[.float .f64 0, .int .i64 0, .bool false]) ∧ w = w' := by
  go_enter Tryz.func134, Tryz.ntmps134
  go_wp2_with fail
  exact bodyPost_ret (v := .tuple #[.float .f64 0, .int .i64 0, .bool false]) (by simp [results, Tryz.results134, go_sem]) rfl ⟨rfl, rfl⟩

set_option maxRecDepth 1000000 in
set_option maxHeartbeats 1600000 in
theorem exact15 (w : World) (h : Knows w) : Calls Tryz.prog 145 #[.int .u64 15, .int .i64 (-1), .bool false] w fun e w' => e = .returned (.tuple #[.float .f64 4609434218613702656, .bool true]) ∧ ∃ n, w' = w.drewN n := by
  obtain ⟨pb, po, c, h1, h2⟩ := h.pows
  have h3 := h.width
  have hq : ∀ w : World, (binOp .quo 27 (.float .f64 (floatOfInt .f64 15)) (.float .f64 4621819117588971520)).run Tryz.prog w = .ok (.float .f64 4609434218613702656) w := fun w => run_float_arith w .quo 27 .f64 _ _ _ (by kernel_rfl)
  go_enter Tryz.func145, Tryz.ntmps145
  go_wp2_with fail
  go_ret2
  exact ⟨rfl, 0, rfl⟩

set_option maxRecDepth 1000000 in
theorem bool2_false (w : World) : Calls Tryz.prog 143 #[.bool false] w fun e w' => e = .returned (.int .u64 0) ∧ w = w' := by
  go_enter Tryz.func143, Tryz.ntmps143
  go_wp2_with fail
  go_ret
  exact ⟨rfl, rfl⟩

set_option maxRecDepth 1000000 in
set_option maxHeartbeats 1600000 in
theorem atof15 (w : World) (h : Knows w) : Calls Tryz.prog 121 #[.string ⟨#[49, 46, 53]⟩] w fun e w' => e = .returned (.tuple #[.float .f64 4609434218613702656, .int .i64 3, .nilIface]) ∧ ∃ n, w' = w.drewN n := by
  have HK := Lib.hid h
  have h6 := h.ways
  clear h
  go_enter Tryz.func121, Tryz.ntmps121
  go_wp2_with (first | (go_at_call 134; refine (special15 _).mono ?_; rintro e w' ⟨rfl, rfl⟩) | (go_at_call 135; refine (read15 _).mono ?_; rintro e w' ⟨rfl, rfl⟩) | (go_at_call 143; refine (bool2_false _).mono ?_; rintro e w' ⟨rfl, rfl⟩) | (go_at_call 145; refine (exact15 _ HK.out).mono ?_; rintro e w' ⟨rfl, n, rfl⟩))
  exact bodyPost_ret (v := .tuple #[.float .f64 4609434218613702656, .int .i64 3, .nilIface]) (by simp [results, Tryz.results121, go_sem]) rfl ⟨rfl, n, rfl⟩

set_option maxRecDepth 1000000 in
set_option maxHeartbeats 1600000 in
theorem prefix15 (w : World) (h : Knows w) : Calls Tryz.prog 104 #[.string ⟨#[49, 46, 53]⟩, .int .i64 64] w fun e w' => e = .returned (.tuple #[.float .f64 4609434218613702656, .int .i64 3, .nilIface]) ∧ ∃ n, w' = w.drewN n := by
  have HK := Lib.hid h
  clear h
  go_enter Tryz.func104, Tryz.ntmps104
  go_wp2_with (go_at_call 121; refine (atof15 _ HK.out).mono ?_; rintro e w' ⟨rfl, n, rfl⟩)
  exact bodyPost_ret (v := .tuple #[.float .f64 4609434218613702656, .int .i64 3, .nilIface]) (by simp [results, Tryz.results104, go_sem]) rfl ⟨rfl, n, rfl⟩

theorem parse15 (w : World) (h : Knows w) : Calls Tryz.prog 86 #[.string ⟨#[49, 46, 53]⟩, .int .i64 64] w fun e w' => e = .returned (.tuple #[.float .f64 4609434218613702656, .nilIface]) ∧ ∃ n, w' = w.drewN n := by
  have HK := Lib.hid h
  clear h
  go_enter Tryz.func86, Tryz.ntmps86
  go_wp2_with (go_at_call 104; refine (prefix15 _ HK.out).mono ?_; rintro e w' ⟨rfl, n, rfl⟩)
  go_ret2
  exact ⟨rfl, n, rfl⟩

theorem parseFloat15 (w : World) (h : Knows w) : Calls Tryz.prog 55 #[.string ⟨#[49, 46, 53]⟩, .int .i64 64] w fun e w' => e = .returned (.tuple #[.float .f64 4609434218613702656, .nilIface]) ∧ ∃ n, w' = w.drewN n := by
  have HK := Lib.hid h
  clear h
  go_enter Tryz.func55, Tryz.ntmps55
  go_wp2_with (go_at_call 86; refine (parse15 _ HK.out).mono ?_; rintro e w' ⟨rfl, n, rfl⟩)
  go_ret2
  exact ⟨rfl, n, rfl⟩
end Go.Proofs.YtoonneminimbfaaGreatDoor
