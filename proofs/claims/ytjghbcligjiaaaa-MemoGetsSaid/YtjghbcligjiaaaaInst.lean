/- The two memos of this program (of whole numbers, of texts): their types' numbers; slices.Contains of whole numbers; the lock. -/
import Derived.Test.YtjghbcligjiaaaaDel
import Derived.Test.YtjghbcligjiaaaaLook
import Derived.Conc.MuLone
import Derived.StringKeys
namespace Go.Proofs.Ytjghbcligjiaaaa
open Go.RowKit Go.Maps Go.MuLone
set_option linter.unusedVariables false
set_option linter.unusedSimpArgs false

theorem law9 : Keyed Try.prog 9 := string_keyed Try.underlying9
theorem key9 {k : ByteArray} (h : k.size ≤ maxLen) : keyOf Try.prog 9 (.string k) = some (litS k) := WideMaps.keyOf_string_mk Try.underlying9 h
abbrev Ti : MT Int := ⟨9, 3, 3, 81, 88, Value.int .i64, .int .i64 0, fun n => .lit (.int .i64 n)⟩
abbrev Ts : MT ByteArray := ⟨9, 3, 9, 100, 105, Value.string, .string ⟨#[]⟩, fun s => .lit (litS s)⟩
theorem zrun3 (w : World) : (zeroValue 3).run Try.prog w = .ok (.int .i64 0) w := by kernel_rfl
theorem zrun9 (w : World) : (zeroValue 9).run Try.prog w = .ok (.string ⟨#[]⟩) w := by kernel_rfl
theorem zrun83 (w : World) : (zeroValue 83).run Try.prog w = .ok (.pointer none) w := by kernel_rfl
theorem zrun101 (w : World) : (zeroValue 101).run Try.prog w = .ok (.pointer none) w := by kernel_rfl
theorem Vi : VT Try.prog Ti (fun n => (Lit.int .i64 n).wf = true) := by
  refine ⟨fun v x ps h => ?_, ⟨.lit (.int .i64 0), [], plainElem_int Try.underlying3 (by decide), fun v ps h => ?_⟩, zrun3, fun x hx => plainElem_int Try.underlying3 hx⟩
  all_goals
    obtain ⟨c, rfl, e, _⟩ := plainElem_int_inv Try.underlying3 h
    simp at e
    simp [e]
theorem Vs : VT Try.prog Ts (fun s => s.size ≤ maxLen) :=
  ⟨fun v x ps h => plainElem_string_inv Try.underlying9 h, ⟨.lit (litS ⟨#[]⟩), [], plainElem_string Try.underlying9 (by decide), fun v ps h => plainElem_string_inv Try.underlying9 h⟩, zrun9, fun x hx => plainElem_string Try.underlying9 hx⟩

/-! ### slices.Contains of whole numbers -/
theorem index_any (v : Value) (l : List Int) (x : Int) (w : World) (hrow : OffRow 3 w v (l.map (Value.int .i64))) :
    Calls Try.prog 58 #[v, .int .i64 x] w fun e w' => (∃ i : Int, e = .returned (.int .i64 i) ∧ (0 ≤ i ↔ x ∈ l)) ∧ ∃ q, w' = w.drewN q := by
  obtain ⟨A, c, hv, hmax⟩ := hrow.len
  rw [List.length_map] at hv hmax
  have hcell : ∀ j y, l[j]? = some y → ∃ b off, A = some ⟨b, off, none⟩ ∧ w.cell? ⟨b, off + j, none⟩ = some (.int .i64 y) := by
    intro j y hj
    have hne : l.map (Value.int .i64) ≠ [] := by intro e; simp at e; simp [e] at hj
    obtain ⟨g, off, cap, hv2, _, _, hc, _⟩ := hrow.form hne
    rw [hv] at hv2
    injection hv2 with e1 e2 e3
    exact ⟨g, off, e1, hc j _ (by simp [hj])⟩
  subst hv
  unfold maxLen at hmax
  have HC := Lib.hid hcell
  clear hcell hrow
  go_enter Try.func58, Try.ntmps58
  go_wp2_with fail
  go_loopw [8] (fun i wr => ∃ k : Nat, k ≤ l.length ∧ i = .int .i64 k ∧ (∀ j y, l[j]? = some y → j < k → y ≠ x) ∧ ∃ q, wr = w.drewN q) (fun i _ => l.length - (intOf i).toNat)
  case atStart => exact ⟨0, Nat.zero_le _, rfl, fun j _ _ h => absurd h (Nat.not_lt_zero _), 0, rfl⟩
  case round =>
    obtain ⟨k, hk, rfl, hno, q, rfl⟩ := hrel
    have HN := Lib.hid hno
    clear hno
    by_cases hlt : k < l.length
    · obtain ⟨y, hy⟩ : ∃ y, l[k]? = some y := ⟨_, List.getElem?_eq_getElem hlt⟩
      obtain ⟨b, off, rfl, hcl⟩ := HC.out k y hy
      have HY := Lib.hid hy
      clear hy
      by_cases he : x = y
      · subst he
        go_wp2
        go_ret
        exact ⟨⟨k, rfl, ⟨fun _ => List.mem_of_getElem? HY.out, fun _ => by omega⟩⟩, _, rfl⟩
      · have he2 : ¬ y = x := fun e => he e.symm
        go_wp2
        go_roundw
        case rel => exact ⟨k + 1, by omega, by go_num, fun j z hj h => by
          rcases Nat.lt_or_ge j k with h1 | h1
          · exact HN.out j z hj h1
          · obtain rfl : j = k := by omega
            have e := HY.out
            rw [hj] at e
            cases e
            exact fun e => he e.symm, _, rfl⟩
        case measure => simp only [intOf]; omega
    · have hke : k = l.length := by omega
      subst hke
      go_wp2
      go_ret
      refine ⟨⟨-1, rfl, ⟨fun h => absurd h (by decide), fun h => ?_⟩⟩, _, rfl⟩
      obtain ⟨j, hj, e⟩ := List.getElem_of_mem h
      exact absurd e (HN.out j _ (List.getElem?_eq_getElem hj) hj)
theorem contains_any (v : Value) (l : List Int) (x : Int) (w : World) (hrow : OffRow 3 w v (l.map (Value.int .i64))) :
    Calls Try.prog 49 #[v, .int .i64 x] w fun e w' => e = .returned (.bool (decide (x ∈ l))) ∧ ∃ q, w' = w.drewN q := by
  have HI := Lib.hid (index_any v l x w hrow)
  clear hrow
  go_enter Try.func49, Try.ntmps49
  go_wp2_with fail
  refine HI.out.mono ?_
  rintro e w' ⟨⟨i, rfl, hi⟩, q, rfl⟩
  by_cases h : 0 ≤ i
  · go_wp2
    go_ret
    exact ⟨by simp [hi.1 h], q, rfl⟩
  · have h2 : ¬ x ∈ l := fun hm => h (hi.2 hm)
    go_wp2
    go_ret
    exact ⟨by simp [h2], q, rfl⟩
end Go.Proofs.Ytjghbcligjiaaaa
