/- lock: is it a memo? Then it is locked. -/
import Derived.Test.YtjghbcligjiaaaaInst
import Derived.Test.YtjghbcligjiaaaaEnds
import Derived.WalkSpells
import Derived.Deep.QuietTactic
import Derived.BigQuiet
namespace Go.Proofs.Ytjghbcligjiaaaa
open Go.RowKit Go.Maps Go.Sort Go.MuLone
set_option linter.unusedVariables false
set_option linter.unusedSimpArgs false
theorem lock_anyI {S : MS Int} {B : MB} (w : World) (h : MemoAt Try.prog Ti w 0 S B) (hm : S.most ≠ 0) :
    Calls Try.prog 34 #[.pointer (some ⟨B.m, 0, none⟩)] w fun e w' => e = .returned (.bool true) ∧ w' = w.setCell ⟨B.m, 0, none⟩ (.int .i32 1) := by
  have hC := cells_of h.obj
  have c0 := hC.c0
  have c2 := hC.c2
  have f0 := hC.fz 0
  have hm0 : ¬ (S.most : Int) = 0 := by omega
  clear hC h
  go_enter Try.func34, Try.ntmps34
  go_wp2_with (go_at_call 42; refine (lock_free Try.muLib ⟨B.m, 0, none⟩ _ c0 f0).mono ?_; rintro e w' ⟨rfl, rfl⟩)
  go_ret
  exact ⟨rfl, rfl⟩
theorem lock_nilI (w : World) : Calls Try.prog 34 #[.pointer none] w fun e w' => e = .returned (.bool false) ∧ w' = w := by
  go_enter Try.func34, Try.ntmps34
  go_wp2_with fail
  go_ret
  exact ⟨rfl, rfl⟩
theorem lock_emptyI (b : Nat) (w : World) (c2 : w.cell? ⟨b, 2, none⟩ = some (.int .i64 0)) : Calls Try.prog 34 #[.pointer (some ⟨b, 0, none⟩)] w fun e w' => e = .returned (.bool false) ∧ w' = w := by
  go_enter Try.func34, Try.ntmps34
  go_wp2_with fail
  go_ret
  exact ⟨rfl, rfl⟩
theorem lockedI {S : MS Int} {B : MB} {w : World} {st st' : Int} (h : MemoAt Try.prog Ti w st S B) : MemoAt Try.prog Ti (w.setCell ⟨B.m, 0, none⟩ (.int .i32 st')) st' S B ∧ Only (foot S B) w (w.setCell ⟨B.m, 0, none⟩ (.int .i32 st')) :=
  ⟨h.lock (set_heap h.obj) (fun b _ hne => set_other hne), set_only foot_m⟩
end Go.Proofs.Ytjghbcligjiaaaa
