/- Memos that are none. -/
import Derived.Test.YtjghbcligjiaaaaGetI
namespace Go.Proofs.Ytjghbcligjiaaaa
open Go.RowKit Go.Maps Go.Sort Go.MuLone
set_option linter.unusedVariables false
set_option linter.unusedSimpArgs false
theorem Ask_nil (k : ByteArray) (who : Int) (w : World) : Calls Try.prog 9 #[.pointer none, .string k, .int .i64 who] w fun e w' => e = .returned (.tuple #[.int .i64 0, .int .i64 0, .int .i64 1]) ∧ w' = w := by
  go_enter_defers Try.func9, Try.ntmps9
  go_wp2_with (go_at_call 34; refine (lock_nilI w).mono ?_; rintro e w1 ⟨rfl, hw⟩; subst hw)
  exact ⟨_, results_tmp3 rfl _ _ _, rfl, rfl⟩
theorem Get_nil (k : ByteArray) (who : Int) (fv : Value) (w : World) : Calls Try.prog 20 #[.pointer none, .string k, .int .i64 who, fv] w fun e w' => e = .returned (.tuple #[.int .i64 0, .int .i64 1]) ∧ w' = w := by
  go_enter_defers Try.func20, Try.ntmps20
  go_wp2_with (go_at_call 34; refine (lock_nilI w).mono ?_; rintro e w1 ⟨rfl, hw⟩; subst hw)
  exact ⟨_, results_tmp2 rfl _ _ _, rfl, rfl⟩
theorem Kept_nil (w : World) : Calls Try.prog 15 #[.pointer none] w fun e w' => e = .returned (.slice none 0 0) ∧ w' = w := by
  go_enter_defers Try.func15, Try.ntmps15
  go_wp2_with (go_at_call 34; refine (lock_nilI w).mono ?_; rintro e w1 ⟨rfl, hw⟩; subst hw)
  exact ⟨_, results_tmp rfl _ _ _, rfl, rfl⟩
theorem Waiting_nil (k : ByteArray) (w : World) : Calls Try.prog 18 #[.pointer none, .string k] w fun e w' => e = .returned (.slice none 0 0) ∧ w' = w := by
  go_enter_defers Try.func18, Try.ntmps18
  go_wp2_with (go_at_call 34; refine (lock_nilI w).mono ?_; rintro e w1 ⟨rfl, hw⟩; subst hw)
  exact ⟨_, results_tmp rfl _ _ _, rfl, rfl⟩
theorem Give_empty (b : Nat) (k : ByteArray) (who x : Int) (w : World) (c2 : w.cell? ⟨b, 2, none⟩ = some (.int .i64 0)) : Calls Try.prog 11 #[.pointer (some ⟨b, 0, none⟩), .string k, .int .i64 who, .int .i64 x] w fun e w' => e = .returned (.tuple #[.slice none 0 0, .int .i64 1]) ∧ w' = w := by
  go_enter_defers Try.func11, Try.ntmps11
  go_wp2_with (go_at_call 34; refine (lock_emptyI b w c2).mono ?_; rintro e w1 ⟨rfl, hw⟩; subst hw)
  exact ⟨_, results_tmp2 rfl _ _ _, rfl, rfl⟩
theorem Making_empty (b : Nat) (w : World) (c2 : w.cell? ⟨b, 2, none⟩ = some (.int .i64 0)) : Calls Try.prog 10 #[.pointer (some ⟨b, 0, none⟩)] w fun e w' => e = .returned (.slice none 0 0) ∧ w' = w := by
  go_enter_defers Try.func10, Try.ntmps10
  go_wp2_with (go_at_call 34; refine (lock_emptyI b w c2).mono ?_; rintro e w1 ⟨rfl, hw⟩; subst hw)
  exact ⟨_, results_tmp rfl _ _ _, rfl, rfl⟩
end Go.Proofs.Ytjghbcligjiaaaa
