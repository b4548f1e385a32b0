/- slices.Clone of texts, of whole numbers. -/
import Derived.Test.YtjghbcligjiaaaaInst
import Derived.WalkSpells
import Derived.Lib.SliceRun
import Derived.Lib.Walk
namespace Go.Proofs.Ytjghbcligjiaaaa
open Go.RowKit Go.Maps Go.Sort
set_option linter.unusedVariables false
set_option linter.unusedSimpArgs false
theorem OffRow.cellsAt {e : TypeId} {w : World} {A : Option Addr} {n c : Nat} {l : List Value} (h : OffRow e w (.slice A n c) l) (b off : Nat) (hA : A = some ⟨b, off, none⟩) : ∀ j u, l[j]? = some u → w.cell? ⟨b, off + j, none⟩ = some u := by
  intro j u hj
  have hne : l ≠ [] := by intro e; rw [e] at hj; simp at hj
  obtain ⟨g, o, cap, hv, _, _, hc, _⟩ := h.form hne
  simp only [Value.slice.injEq] at hv
  obtain ⟨rfl, _⟩ := hv
  cases hA
  exact hc j u hj
theorem Try.infoC9 : (Try.prog.info? 9).map (fun i => (i.zero, i.size, i.bytes)) = some (some (.string ⟨#[]⟩), 1, 16) := by kernel_rfl
set_option maxRecDepth 100000 in
set_option maxHeartbeats 1600000 in
theorem clone_str (v : Value) (l : List Value) (w : World) (hr : OffRow 9 w v l) (hl : l.length ≤ 1000001) (h1 : ∀ u ∈ l, u.oneCell' = true) :
    Calls Try.prog 37 #[v] w fun e w' => ∃ v', e = .returned v' ∧ OffRow 9 w' v' l ∧ (∀ q, v'.ownBlock = some q → w.heap.size ≤ q) ∧ Below w.heap.size w w' := by
  obtain ⟨i0, hi, hz0, hz1, hz2⟩ := info_parts Try.infoC9
  have hq : ∀ (W : World) (A : Option Addr) (n c : Nat), (binOp .eql 30 (.slice A n c) (.slice none 0 0)).run Try.prog W = .ok (.bool A.isNone) W := fun W A n c => Lib.run_eql_slice_nil W 30 9 A n c 0 0 Try.underlying30
  obtain ⟨A, c, rfl, hmax⟩ := hr.len
  cases A with
  | none =>
    have hl0 : l = [] := by
      rcases hr with ⟨_, h⟩ | ⟨g, off, cap, cur, hv, _⟩
      · exact h
      · simp at hv
    subst hl0
    clear hr
    go_enter Try.func37, Try.ntmps37
    go_wp2
    go_ret
    exact ⟨_, rfl, OffRow.nil_, fun q hq => by simp [Value.ownBlock] at hq, Below.refl _ _⟩
  | some a =>
    obtain ⟨b, off, rfl⟩ : ∃ b off, a = ⟨b, off, none⟩ := by
      rcases hr with ⟨h, _⟩ | ⟨g, off, cap, cur, hv, _⟩
      · cases h
      · simp only [Value.slice.injEq, Option.some.injEq] at hv
        exact ⟨g, off, hv.1⟩
    have hc := hr.cellsAt b off rfl
    have HC := Lib.hid hc
    have HL := Lib.hid hl
    have H1 := Lib.hid h1
    clear hc hr h1
    go_enter Try.func37, Try.ntmps37
    go_wp2_with (at_builtin; go_must (refine wpList_append_own _ rfl _ _ 30 rfl w.heap.size 9 i0 (.string ⟨#[]⟩) 1 16 Try.underlying30 hi hz0 hz1 hz2 rfl (by decide) (.slice (some ⟨w.heap.size, 0, none⟩) 0 0) 0 [] (by rfl) (World.ownsRow_made w #[] 0 (Nat.le_refl _) (Nat.zero_le _) (by simp)) ⟨b, off, none⟩ l.length c l rfl (by simp) (fun j u hj => by rw [Addr.add_lit]; exact Lib.cell?_alloc_some _ (HC.out j u hj)) H1.out (by have := HL.out; unfold maxLen; omega) (by have := HL.out; omega) (by simp) ?_); intro v' w1 hown hgrow hnil)
    go_ret
    refine ⟨v', rfl, OffRow.of_own (by simpa using hown), fun q hq => ?_, ((Below.refl _ w).alloc (Nat.le_refl _) _).grown hgrow (by simp) (by intro k hk; simp only [Value.ownBlock, Option.some.injEq] at hk; omega)⟩
    rcases hown.2 with ⟨h1, _⟩ | ⟨g, cap, cur, h1, h2, _⟩
    · rw [h1] at hq; simp [Value.ownBlock] at hq
    · rw [h1] at hq; simp [Value.ownBlock] at hq; omega
theorem Try.infoC3 : (Try.prog.info? 3).map (fun i => (i.zero, i.size, i.bytes)) = some (some (.int .i64 0), 1, 8) := by kernel_rfl
set_option maxRecDepth 100000 in
set_option maxHeartbeats 1600000 in
theorem clone_int (v : Value) (l : List Value) (w : World) (hr : OffRow 3 w v l) (hl : l.length ≤ 1000001) (h1 : ∀ u ∈ l, u.oneCell' = true) :
    Calls Try.prog 40 #[v] w fun e w' => ∃ v', e = .returned v' ∧ OffRow 3 w' v' l ∧ (∀ q, v'.ownBlock = some q → w.heap.size ≤ q) ∧ Below w.heap.size w w' := by
  obtain ⟨i0, hi, hz0, hz1, hz2⟩ := info_parts Try.infoC3
  have hq : ∀ (W : World) (A : Option Addr) (n c : Nat), (binOp .eql 25 (.slice A n c) (.slice none 0 0)).run Try.prog W = .ok (.bool A.isNone) W := fun W A n c => Lib.run_eql_slice_nil W 25 3 A n c 0 0 Try.underlying25
  obtain ⟨A, c, rfl, hmax⟩ := hr.len
  cases A with
  | none =>
    have hl0 : l = [] := by
      rcases hr with ⟨_, h⟩ | ⟨g, off, cap, cur, hv, _⟩
      · exact h
      · simp at hv
    subst hl0
    clear hr
    go_enter Try.func40, Try.ntmps40
    go_wp2
    go_ret
    exact ⟨_, rfl, OffRow.nil_, fun q hq => by simp [Value.ownBlock] at hq, Below.refl _ _⟩
  | some a =>
    obtain ⟨b, off, rfl⟩ : ∃ b off, a = ⟨b, off, none⟩ := by
      rcases hr with ⟨h, _⟩ | ⟨g, off, cap, cur, hv, _⟩
      · cases h
      · simp only [Value.slice.injEq, Option.some.injEq] at hv
        exact ⟨g, off, hv.1⟩
    have hc := hr.cellsAt b off rfl
    have HC := Lib.hid hc
    have HL := Lib.hid hl
    have H1 := Lib.hid h1
    clear hc hr h1
    go_enter Try.func40, Try.ntmps40
    go_wp2_with (at_builtin; go_must (refine wpList_append_own _ rfl _ _ 25 rfl w.heap.size 3 i0 (.int .i64 0) 1 8 Try.underlying25 hi hz0 hz1 hz2 rfl (by decide) (.slice (some ⟨w.heap.size, 0, none⟩) 0 0) 0 [] (by rfl) (World.ownsRow_made w #[] 0 (Nat.le_refl _) (Nat.zero_le _) (by simp)) ⟨b, off, none⟩ l.length c l rfl (by simp) (fun j u hj => by rw [Addr.add_lit]; exact Lib.cell?_alloc_some _ (HC.out j u hj)) H1.out (by have := HL.out; unfold maxLen; omega) (by have := HL.out; omega) (by simp) ?_); intro v' w1 hown hgrow hnil)
    go_ret
    refine ⟨v', rfl, OffRow.of_own (by simpa using hown), fun q hq => ?_, ((Below.refl _ w).alloc (Nat.le_refl _) _).grown hgrow (by simp) (by intro k hk; simp only [Value.ownBlock, Option.some.injEq] at hk; omega)⟩
    rcases hown.2 with ⟨h1, _⟩ | ⟨g, cap, cur, h1, h2, _⟩
    · rw [h1] at hq; simp [Value.ownBlock] at hq
    · rw [h1] at hq; simp [Value.ownBlock] at hq; omega
end Go.Proofs.Ytjghbcligjiaaaa
