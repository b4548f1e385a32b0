/- New: a memo with room for so many. -/
import Derived.Test.YtjghbcligjiaaaaListsI
namespace Go.Proofs.Ytjghbcligjiaaaa
open Go.RowKit Go.Maps Go.Sort Go.MuLone
set_option linter.unusedVariables false
set_option linter.unusedSimpArgs false
theorem New_noneI (most : Int) (w : World) (h : most < 1 ∨ 64 < most) : Calls Try.prog 8 #[.int .i64 most] w fun e w' => e = .returned (.pointer none) ∧ w' = w := by
  rcases h with h | h
  · go_enter Try.func8, Try.ntmps8
    go_wp2_with fail
    go_ret
    exact ⟨rfl, rfl⟩
  · have h1 : ¬ most < 1 := by omega
    go_enter Try.func8, Try.ntmps8
    go_wp2_with fail
    go_ret
    exact ⟨rfl, rfl⟩
theorem New_anyI (n : Nat) (w : World) (h1 : 1 ≤ n) (h2 : n ≤ 64) : Calls Try.prog 8 #[.int .i64 (n : Int)] w fun e w' => ∃ B : MB, e = .returned (.pointer (some ⟨B.m, 0, none⟩)) ∧ MemoAt Try.prog Ti w' 0 ⟨n, [], []⟩ B ∧ (∀ b ∈ foot (⟨n, [], []⟩ : MS Int) B, w.heap.size ≤ b) ∧ Below w.heap.size w w' := by
  have g1 : ¬ (n : Int) < 1 := by omega
  have g2 : ¬ (64 : Int) < (n : Int) := by omega
  have m1 : ∀ w : World, (Instr.makeMap 49 none).run Try.prog w = .ok (.map (some w.heap.size)) (w.alloc (.map #[] 0)) := fun w => by simp [Instr.makeMap, run_underlying Try.underlying49]
  have m2 : ∀ w : World, (Instr.makeMap 79 none).run Try.prog w = .ok (.map (some w.heap.size)) (w.alloc (.map #[] 0)) := fun w => by simp [Instr.makeMap, run_underlying Try.underlying79]
  go_enter Try.func8, Try.ntmps8
  go_wp2_with fail
  go_ret
  refine ⟨⟨w.heap.size + 2, w.heap.size, w.heap.size + 1, .slice none 0 0, .slice none 0 0⟩, by simp, ?_, ?_, ?_⟩
  · have e0 := heap_alloc_new ((w.alloc (.map #[] 0)).alloc (.map #[] 0)) (.cells #[.int .i32 0, .int .u32 0, .int .i64 n, .map (some w.heap.size), .slice none 0 0, .map (some (w.heap.size + 1)), .slice none 0 0] 81)
    rw [World.size_alloc, World.size_alloc] at e0
    refine MemoAt.new e0 ?_ ?_ (by omega) (by omega) (by omega)
    · have h := World.ownsMap_made w Try.prog 9 (plainElem (H := Unit) Try.prog 3)
      have h2 := owns_keep (w' := (w.alloc (.map #[] 0)).alloc (.map #[] 0)) h (Go.heap_alloc_old _ _ (by rw [World.size_alloc]; omega))
      exact owns_keep h2 (Go.heap_alloc_old _ _ (by rw [World.size_alloc, World.size_alloc]; omega))
    · have h := World.ownsMap_made (w.alloc (.map #[] 0)) Try.prog 9 ptrElem
      rw [World.size_alloc] at h
      exact owns_keep h (Go.heap_alloc_old _ _ (by rw [World.size_alloc, World.size_alloc]; omega))
  · intro b hb
    simp [foot, own, Value.ownBlock] at hb
    omega
  · exact (((Below.refl _ w).alloc (Nat.le_refl _) _).alloc (by rw [World.size_alloc]; omega) _).alloc (by rw [World.size_alloc, World.size_alloc]; omega) _
end Go.Proofs.Ytjghbcligjiaaaa
