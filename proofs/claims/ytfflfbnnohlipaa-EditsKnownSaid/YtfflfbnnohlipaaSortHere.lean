/- slices.Clone at splices; edits.Sort. -/
import Derived.Test.YtfflfbnnohlipaaStable
import Derived.Test.YtfflfbnnohlipaaRank
namespace Go.Proofs.Ytfflfbnnohlipaa
open Go.RowKit
set_option linter.unusedVariables false
set_option linter.unusedSimpArgs false

set_option maxHeartbeats 800000 in
theorem insertion_nil (w : World) : Calls Try.prog 53 #[.slice none 0 0, .int .i64 0, .int .i64 0, .func (.func 43) #[] #[]] w fun e w' => e = .returned (.tuple #[]) ∧ w = w' := by
  go_enter Try.func53, Try.ntmps53
  go_wp2_with fail
  go_loop [8] (fun u => u = .int .i64 1) (fun _ => 0)
  case atStart => rfl
  case round =>
    obtain rfl := hrel
    go_wp2_with fail
    go_end0
    exact ⟨rfl, rfl⟩

set_option maxHeartbeats 800000 in
theorem stable_nil (w : World) : Calls Try.prog 50 #[.slice none 0 0, .int .i64 0, .func (.func 43) #[] #[]] w fun e w' => e = .returned (.tuple #[]) ∧ w = w' := by
  go_enter Try.func50, Try.ntmps50
  go_wp2_with fail
  go_loop [7, 8] (fun u v => u = .int .i64 0 ∧ v = .int .i64 20) (fun _ _ => 0)
  case atStart => exact ⟨rfl, rfl⟩
  case round =>
    obtain ⟨rfl, rfl⟩ := hrel
    go_wp2_with (go_at_call 53; refine (insertion_nil _).mono ?_; rintro e w' ⟨rfl, rfl⟩)
    go_loop [6] (fun u => u = .int .i64 20) (fun _ => 0)
    case atStart => rfl
    case round =>
      obtain rfl := hrel
      go_wp2_with fail
      go_end0
      exact ⟨rfl, rfl⟩

set_option maxHeartbeats 800000 in
theorem sortStable_nil (w : World) : Calls Try.prog 42 #[.slice none 0 0, .func (.func 43) #[] #[]] w fun e w' => e = .returned (.tuple #[]) ∧ w = w' := by
  go_enter Try.func42, Try.ntmps42
  go_wp2_with (go_at_call 50; refine (stable_nil _).mono ?_; rintro e w' ⟨rfl, rfl⟩)
  go_end0
  exact ⟨rfl, rfl⟩

set_option maxHeartbeats 1600000 in
theorem cloneS_any (A : Option Addr) (c : Nat) (l : List Spl) (w : World) (hl : l.length ≤ 1000) (hr : Row w w.heap.size A l) (hnil : A = none → l.length = 0 ∧ c = 0) :
    Calls Try.prog 41 #[.slice A l.length c] w fun e w' => (∃ v, e = .returned v ∧ OwnS w' w.heap.size v l) ∧ Below w.heap.size w w' := by
  obtain ⟨i33, hi33, hz0, hz1, hz2⟩ := info_parts Try.info33
  have HR := Lib.hid hr
  clear hr
  have hq : ∀ (W : World) (A : Option Addr) (n c : Nat), (binOp .eql 22 (.slice A n c) (.slice none 0 0)).run Try.prog W = .ok (.bool A.isNone) W := fun W A n c => Lib.run_eql_slice_nil W 22 33 A n c 0 0 Try.underlying22
  cases A with
  | none =>
    obtain ⟨h0, rfl⟩ := hnil rfl
    obtain rfl : l = [] := List.eq_nil_of_length_eq_zero h0
    go_enter Try.func41, Try.ntmps41
    go_wp2
    go_ret
    exact ⟨⟨_, rfl, Own.nil_⟩, Below.refl _ _⟩
  | some a =>
    clear hnil
    have hown : OwnS (w.alloc (.cells #[] 33)) w.heap.size (.slice (some ⟨w.heap.size, 0, none⟩) 0 0) [] :=
      ⟨rfl, .inr ⟨w.heap.size, 0, #[], rfl, Nat.le_refl _, heap_alloc_new w _, Nat.le_refl _, Nat.zero_le _, rfl, rfl⟩⟩
    have HO := Lib.hid hown
    clear hown
    go_enter Try.func41, Try.ntmps41
    go_wp2_with (at_builtin; go_must (refine wpList_append_row (cs := Spl.cells) rfl _ _ 22 rfl 33 i33 _ 32 Try.underlying22 hi33 hz0 hz1 hz2 rfl (by decide) Spl.len Spl.one _ w.heap.size w.heap.size (.slice (some ⟨w.heap.size, 0, none⟩) 0 0) [] l a l.length c (by rfl) (by rfl) rfl HO.out (HR.out.alloc (Nat.le_refl _) _) (by unfold maxLen; simp; omega) (by simp; omega) (by simp) ?_); intro v' w' hown' hg hat)
    go_ret
    exact ⟨⟨_, rfl, by simpa using hown'⟩, below_grown ((Below.refl _ _).alloc (Nat.le_refl _) _) HO.out (by simp) hg⟩

theorem own_arr {w : World} {B : Nat} {v : Value} {l : List Spl} (h : OwnS w B v l) : (v = .slice none 0 0 ∧ l = []) ∨ ∃ g c, v = .slice (some ⟨g, 0, none⟩) l.length c ∧ B ≤ g ∧ (∀ (K : Nat → Spl) (t : Nat → Nat), (∀ i, i < l.length → l[i]? = some (K (t i))) → Arr K w g t l.length) := by
  rcases h.2 with ⟨hv, h0⟩ | ⟨g, cap, cur, hv, hB, hg, hc, hcm, hs, ht⟩
  · exact .inl ⟨hv, List.eq_nil_of_length_eq_zero h0⟩
  · refine .inr ⟨g, cap, hv, hB, fun K t hk => ⟨cur, hg, fun i hi => ?_⟩⟩
    have key : ∀ j u, (Spl.cells (K (t i)))[j]? = some u → cur[i * 3 + j]? = some u := by
      intro j u hu
      have h1 := flat_at (cs := Spl.cells) (sz := 3) Spl.len l i _ (hk i hi) j u hu
      rw [← ht] at h1
      rw [List.getElem?_take] at h1
      split at h1
      · simpa using h1
      · cases h1
    exact ⟨key 0 _ rfl, key 1 _ rfl, key 2 _ rfl⟩

theorem arr_row {w : World} {g n : Nat} {S : List Spl} (h : Sorted (sp S) g n w) (hn : n = S.length) : Row w w.heap.size (some ⟨g, 0, none⟩) S := by
  intro _
  refine ⟨g, 0, rfl, h.lt, fun i x hx j u hu => ?_⟩
  have hi : i < S.length := by
    rcases Nat.lt_or_ge i S.length with h | h
    · exact h
    · rw [List.getElem?_eq_none h] at hx; cases hx
  obtain ⟨h1, h2, h3⟩ := h.at_ i (by omega)
  have e : sp S i = x := by simp [sp, hx]
  rw [e] at h1 h2 h3
  rw [Nat.zero_add]
  match j with
  | 0 => simp [Spl.cells] at hu; subst hu; exact h1
  | 1 => simp [Spl.cells] at hu; subst hu; exact h2
  | 2 => simp [Spl.cells] at hu; subst hu; exact h3
  | j + 3 => simp [Spl.cells] at hu

set_option maxHeartbeats 1600000 in
theorem sort_any (A : Option Addr) (c : Nat) (l : List Spl) (w : World) (hl : l.length < 40) (hr : Row w w.heap.size A l) (hnil : A = none → l.length = 0 ∧ c = 0) :
    Calls Try.prog 28 #[.slice A l.length c] w fun e w' => RetRow Spl.cells 3 (sortB l) e w' ∧ Below w.heap.size w w' := by
  have HC := Lib.hid (cloneS_any A c l w (by omega) hr hnil)
  clear hr hnil
  go_enter Try.func28, Try.ntmps28
  go_wp2_with fail
  refine HC.out.mono ?_
  rintro e w1 ⟨⟨v, rfl, hown⟩, hb1⟩
  have HB1 := Lib.hid hb1
  clear hb1
  rcases own_arr hown with ⟨rfl, rfl⟩ | ⟨g, c1, rfl, hg, hk⟩
  · clear hown
    go_wp2_with (go_at_call 42; refine (sortStable_nil _).mono ?_; rintro e w' ⟨rfl, rfl⟩)
    go_ret
    exact ⟨⟨none, 0, rfl, RowOf.nil_⟩, HB1.out⟩
  · obtain ⟨t, ix, hrk⟩ := rank_ex l
    have HA := Lib.hid (hk (sp (sortB l)) t hrk.at_)
    have HRK := Lib.hid hrk
    have HG := Lib.hid hg
    clear hown hk hrk
    go_wp2_with fail
    refine (sortStable_any (K := sp (sortB l)) c1 ix HRK.out.tells hl HRK.out.lt (fun p q h1 h2 => by rw [HRK.out.back p (by omega), HRK.out.back q h2]; exact h1) HA.out).mono ?_
    rintro e w2 ⟨rfl, hs, hb2⟩
    have HS := Lib.hid hs
    have HB2 := Lib.hid hb2
    clear hs hb2
    go_wp2_with fail
    go_ret
    exact ⟨⟨some ⟨g, 0, none⟩, c1, by rw [sortB_len]; rfl, arr_row HS.out (sortB_len l).symm⟩, HB1.out.trans (HB2.out.below HG.out HB1.out.size)⟩
end Go.Proofs.Ytfflfbnnohlipaa
