/- Two lists that are the same: same, Same, Ints. -/
import Derived.Test.YtjghbcligjiaaaaClone
import Derived.Deep.QuietTactic
import Derived.BigQuiet
namespace Go.Proofs.Ytjghbcligjiaaaa
open Go.RowKit Go.Maps Go.Sort
set_option linter.unusedVariables false
set_option linter.unusedSimpArgs false
theorem toList_ne_self (s : ByteArray) : (s.toList == s.toList) = true := by simp
theorem same_28 (v1 v2 : Value) (l : List ByteArray) (w : World) (h1 : OffRow 9 w v1 (l.map Value.string)) (h2 : OffRow 9 w v2 (l.map Value.string)) :
    Calls Try.prog 28 #[v1, v2] w fun e w' => e = .returned (.bool true) ∧ ∃ q, w' = w.drewN q := by
  obtain ⟨A1, c1, rfl, hm1⟩ := h1.len
  obtain ⟨A2, c2, rfl, hm2⟩ := h2.len
  rw [List.length_map] at hm1 h1 h2 ⊢
  have hl63 : l.length ≤ 9223372036854775807 := by unfold maxLen at hm1; exact hm1
  have H1 := Lib.hid h1
  have H2 := Lib.hid h2
  clear h1 h2 hm1 hm2
  go_enter Try.func28, Try.ntmps28
  go_wp2_with fail
  go_loopw [5] (fun i wr => ∃ k : Nat, k ≤ l.length ∧ i = .int .i64 k ∧ ∃ q, wr = w.drewN q) (fun i _ => l.length - (intOf i).toNat)
  case atStart => exact ⟨0, Nat.zero_le _, rfl, 0, rfl⟩
  case round =>
    obtain ⟨k, hk, rfl, q, rfl⟩ := hrel
    by_cases hlt : k < l.length
    · obtain ⟨y, hy⟩ : ∃ y, l[k]? = some y := ⟨_, List.getElem?_eq_getElem hlt⟩
      have hne : l.map Value.string ≠ [] := by intro e; simp at e; simp [e] at hlt
      obtain ⟨g1, o1, cap1, hv1, x1, x2, k1, x3⟩ := H1.out.form hne
      obtain ⟨g2, o2, cap2, hv2, y1, y2, k2, y3⟩ := H2.out.form hne
      simp only [Value.slice.injEq] at hv1 hv2
      obtain ⟨rfl, z1, rfl⟩ := hv1
      obtain ⟨rfl, z2, rfl⟩ := hv2
      have q1 : w.cell? ⟨g1, o1 + k, none⟩ = some (Value.string y) := k1 k _ (by simp [hy])
      have q2 : w.cell? ⟨g2, o2 + k, none⟩ = some (Value.string y) := k2 k _ (by simp [hy])
      have hki : (0 : Int) ≤ (k : Int) := by omega
      have hki2 : (k : Int) < (l.length : Int) := by omega
      clear x1 x2 k1 x3 y1 y2 k2 y3 z1 z2 hne hy
      go_wp2_with fail
      go_quiet (fail)
      go_wp2_with fail
      go_roundw
      case rel => exact ⟨k + 1, by omega, by go_num, _, rfl⟩
      case measure => simp only [intOf]; omega
    · have hke : k = l.length := by omega
      subst hke
      go_wp2_with fail
      go_ret
      exact ⟨rfl, _, rfl⟩
theorem same_14 (v1 v2 : Value) (l : List ByteArray) (w : World) (h1 : OffRow 9 w v1 (l.map Value.string)) (h2 : OffRow 9 w v2 (l.map Value.string)) :
    Calls Try.prog 14 #[v1, v2] w fun e w' => e = .returned (.bool true) ∧ ∃ q, w' = w.drewN q := by
  obtain ⟨A1, c1, rfl, hm1⟩ := h1.len
  obtain ⟨A2, c2, rfl, hm2⟩ := h2.len
  rw [List.length_map] at hm1 h1 h2 ⊢
  have hl63 : l.length ≤ 9223372036854775807 := by unfold maxLen at hm1; exact hm1
  have H1 := Lib.hid h1
  have H2 := Lib.hid h2
  clear h1 h2 hm1 hm2
  go_enter Try.func14, Try.ntmps14
  go_wp2_with fail
  go_loopw [5] (fun i wr => ∃ k : Nat, k ≤ l.length ∧ i = .int .i64 k ∧ ∃ q, wr = w.drewN q) (fun i _ => l.length - (intOf i).toNat)
  case atStart => exact ⟨0, Nat.zero_le _, rfl, 0, rfl⟩
  case round =>
    obtain ⟨k, hk, rfl, q, rfl⟩ := hrel
    by_cases hlt : k < l.length
    · obtain ⟨y, hy⟩ : ∃ y, l[k]? = some y := ⟨_, List.getElem?_eq_getElem hlt⟩
      have hne : l.map Value.string ≠ [] := by intro e; simp at e; simp [e] at hlt
      obtain ⟨g1, o1, cap1, hv1, x1, x2, k1, x3⟩ := H1.out.form hne
      obtain ⟨g2, o2, cap2, hv2, y1, y2, k2, y3⟩ := H2.out.form hne
      simp only [Value.slice.injEq] at hv1 hv2
      obtain ⟨rfl, z1, rfl⟩ := hv1
      obtain ⟨rfl, z2, rfl⟩ := hv2
      have q1 : w.cell? ⟨g1, o1 + k, none⟩ = some (Value.string y) := k1 k _ (by simp [hy])
      have q2 : w.cell? ⟨g2, o2 + k, none⟩ = some (Value.string y) := k2 k _ (by simp [hy])
      have hki : (0 : Int) ≤ (k : Int) := by omega
      have hki2 : (k : Int) < (l.length : Int) := by omega
      clear x1 x2 k1 x3 y1 y2 k2 y3 z1 z2 hne hy
      go_wp2_with fail
      go_quiet (fail)
      go_wp2_with fail
      go_roundw
      case rel => exact ⟨k + 1, by omega, by go_num, _, rfl⟩
      case measure => simp only [intOf]; omega
    · have hke : k = l.length := by omega
      subst hke
      go_wp2_with fail
      go_ret
      exact ⟨rfl, _, rfl⟩
theorem same_17 (v1 v2 : Value) (l : List Int) (w : World) (h1 : OffRow 3 w v1 (l.map (Value.int .i64))) (h2 : OffRow 3 w v2 (l.map (Value.int .i64))) :
    Calls Try.prog 17 #[v1, v2] w fun e w' => e = .returned (.bool true) ∧ ∃ q, w' = w.drewN q := by
  obtain ⟨A1, c1, rfl, hm1⟩ := h1.len
  obtain ⟨A2, c2, rfl, hm2⟩ := h2.len
  rw [List.length_map] at hm1 h1 h2 ⊢
  have hl63 : l.length ≤ 9223372036854775807 := by unfold maxLen at hm1; exact hm1
  have H1 := Lib.hid h1
  have H2 := Lib.hid h2
  clear h1 h2 hm1 hm2
  go_enter Try.func17, Try.ntmps17
  go_wp2_with fail
  go_loopw [5] (fun i wr => ∃ k : Nat, k ≤ l.length ∧ i = .int .i64 k ∧ ∃ q, wr = w.drewN q) (fun i _ => l.length - (intOf i).toNat)
  case atStart => exact ⟨0, Nat.zero_le _, rfl, 0, rfl⟩
  case round =>
    obtain ⟨k, hk, rfl, q, rfl⟩ := hrel
    by_cases hlt : k < l.length
    · obtain ⟨y, hy⟩ : ∃ y, l[k]? = some y := ⟨_, List.getElem?_eq_getElem hlt⟩
      have hne : l.map (Value.int .i64) ≠ [] := by intro e; simp at e; simp [e] at hlt
      obtain ⟨g1, o1, cap1, hv1, x1, x2, k1, x3⟩ := H1.out.form hne
      obtain ⟨g2, o2, cap2, hv2, y1, y2, k2, y3⟩ := H2.out.form hne
      simp only [Value.slice.injEq] at hv1 hv2
      obtain ⟨rfl, z1, rfl⟩ := hv1
      obtain ⟨rfl, z2, rfl⟩ := hv2
      have q1 : w.cell? ⟨g1, o1 + k, none⟩ = some ((Value.int .i64) y) := k1 k _ (by simp [hy])
      have q2 : w.cell? ⟨g2, o2 + k, none⟩ = some ((Value.int .i64) y) := k2 k _ (by simp [hy])
      have hki : (0 : Int) ≤ (k : Int) := by omega
      have hki2 : (k : Int) < (l.length : Int) := by omega
      clear x1 x2 k1 x3 y1 y2 k2 y3 z1 z2 hne hy
      go_wp2_with fail
      go_quiet (fail)
      go_wp2_with fail
      go_roundw
      case rel => exact ⟨k + 1, by omega, by go_num, _, rfl⟩
      case measure => simp only [intOf]; omega
    · have hke : k = l.length := by omega
      subst hke
      go_wp2_with fail
      go_ret
      exact ⟨rfl, _, rfl⟩
end Go.Proofs.Ytjghbcligjiaaaa
