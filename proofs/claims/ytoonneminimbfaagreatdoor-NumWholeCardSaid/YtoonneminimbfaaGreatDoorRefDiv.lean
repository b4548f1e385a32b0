/- emendref01.Div; the law NumWhole. -/
import Derived.Test.YtoonneminimbfaaGreatDoorRefMul
namespace Go.Proofs.YtoonneminimbfaaGreatDoor
open Go.RowKit
set_option linter.unusedVariables false
set_option linter.unusedSimpArgs false

theorem refDiv_zero (a : Int) (w : World) : Calls Tryz.prog 47 #[.int .i64 a, .int .i64 0] w fun e w' => e = .returned (.tuple #[.int .i64 0, .int .i64 0, .bool false]) ∧ w = w' := by
  go_enter Tryz.func47, Tryz.ntmps47
  go_wp2_with fail
  exact bodyPost_ret (v := .tuple #[.int .i64 0, .int .i64 0, .bool false]) (by simp [results, Tryz.results47, go_sem]) rfl ⟨rfl, rfl⟩

set_option maxRecDepth 100000 in
set_option maxHeartbeats 3200000 in
theorem refDiv_core (sa sb : Bool) (a b : Int) (na nb : Nat) (w : World) (h1 : SZ a na) (h2 : SZ b nb) (hb0 : b ≠ 0) (hna : na < 18446744073709551616) (hnb : nb < 18446744073709551616) (hnb0 : nb ≠ 0) (da : decide (a < 0) = sa) (db : decide (b < 0) = sb) (Q R : Int)
    (hQ : Q = wrap64 (if sa = sb then ((na / nb : Nat) : Int) else IntKind.u64.wrap (-((na / nb : Nat) : Int)))) (hR : R = wrap64 (if sa = true then IntKind.u64.wrap (-((na % nb : Nat) : Int)) else ((na % nb : Nat) : Int))) :
    Calls Tryz.prog 47 #[.int .i64 a, .int .i64 b] w fun e w' => e = .returned (.tuple #[.int .i64 Q, .int .i64 R, .bool true]) ∧ w = w' := by
  have HS := Lib.hid size_sz
  have hbz : (b == 0) = false := by simpa using hb0
  have hnz : ((nb : Int) == 0) = false := by simp; omega
  have hnz2 : ¬ (nb : Int) = 0 := by omega
  obtain ⟨q, hq⟩ : ∃ q, na / nb = q := ⟨_, rfl⟩
  obtain ⟨r, hr⟩ : ∃ r, na % nb = r := ⟨_, rfl⟩
  have hq1 : (na : Int) / (nb : Int) = (q : Int) := by rw [← hq]; rfl
  have hq2 : (na : Int).tdiv (nb : Int) = (q : Int) := by rw [← hq]; rfl
  have hr1 : (na : Int) % (nb : Int) = (r : Int) := by rw [← hr]; rfl
  have hr2 : (na : Int).tmod (nb : Int) = (r : Int) := by rw [← hr]; rfl
  have hql : q ≤ na := by rw [← hq]; exact Nat.div_le_self _ _
  have hrl : r < nb := by rw [← hr]; exact Nat.mod_lt _ (by omega)
  rw [hq] at hQ
  rw [hr] at hR
  clear hq hr
  have HQ := Lib.hid hQ
  have HR := Lib.hid hR
  clear hQ hR
  cases sa <;> cases sb
  all_goals
    go_enter Tryz.func47, Tryz.ntmps47
    go_wp2_with (go_at_call 63; refine Calls.mono (HS.out _ _ _ (by assumption)) ?_; rintro e w1 ⟨rfl, rfl⟩)
    have hq := HQ.out
    have hr := HR.out
    simp only [if_true, if_false, reduceIte, reduceCtorEq] at hq hr
    exact bodyPost_ret (v := .tuple #[.int .i64 Q, .int .i64 R, .bool true]) (by rw [hq, hr]; simp [results, Tryz.results47, go_sem]) rfl ⟨rfl, rfl⟩

theorem abs_cases (a : Int) : (decide (a < 0) = true ∧ a = -(a.natAbs : Int)) ∨ (decide (a < 0) = false ∧ a = (a.natAbs : Int)) := by
  by_cases h : a < 0
  · left; exact ⟨decide_eq_true h, by omega⟩
  · right; exact ⟨decide_eq_false h, by omega⟩
theorem tdiv_signs (a b : Int) : a.tdiv b = if decide (a < 0) = decide (b < 0) then ((a.natAbs / b.natAbs : Nat) : Int) else -((a.natAbs / b.natAbs : Nat) : Int) := by
  rcases abs_cases a with ⟨h1, e1⟩ | ⟨h1, e1⟩ <;> rcases abs_cases b with ⟨h2, e2⟩ | ⟨h2, e2⟩ <;> rw [h1, h2]
  · rw [if_pos rfl]; conv => lhs; rw [e1, e2]
    rw [Int.neg_tdiv, Int.tdiv_neg, Int.neg_neg]; rfl
  · rw [if_neg (by decide)]; conv => lhs; rw [e1, e2]
    rw [Int.neg_tdiv]; rfl
  · rw [if_neg (by decide)]; conv => lhs; rw [e1, e2]
    rw [Int.tdiv_neg]; rfl
  · rw [if_pos rfl]; conv => lhs; rw [e1, e2]
    rfl
theorem tmod_signs (a b : Int) : a.tmod b = if decide (a < 0) = true then -((a.natAbs % b.natAbs : Nat) : Int) else ((a.natAbs % b.natAbs : Nat) : Int) := by
  rcases abs_cases a with ⟨h1, e1⟩ | ⟨h1, e1⟩ <;> rcases abs_cases b with ⟨h2, e2⟩ | ⟨h2, e2⟩ <;> rw [h1]
  · rw [if_pos rfl]; conv => lhs; rw [e1, e2]
    rw [Int.neg_tmod, Int.tmod_neg]; rfl
  · rw [if_pos rfl]; conv => lhs; rw [e1, e2]
    rw [Int.neg_tmod]; rfl
  · rw [if_neg (by decide)]; conv => lhs; rw [e1, e2]
    rw [Int.tmod_neg]; rfl
  · rw [if_neg (by decide)]; conv => lhs; rw [e1, e2]
    rfl
theorem refDiv_any (a b : Int) (ha0 : -9223372036854775808 ≤ a) (ha1 : a ≤ 9223372036854775807) (hb0 : -9223372036854775808 ≤ b) (hb1 : b ≤ 9223372036854775807) (hb : b ≠ 0) (w : World) :
    Calls Tryz.prog 47 #[.int .i64 a, .int .i64 b] w fun e w' => e = .returned (.tuple #[.int .i64 (wrap64 (a.tdiv b)), .int .i64 (a.tmod b), .bool true]) ∧ w = w' := by
  have hq : a.natAbs / b.natAbs < 18446744073709551616 := Nat.lt_of_le_of_lt (Nat.div_le_self _ _) (by omega)
  have hr : a.natAbs % b.natAbs < b.natAbs := Nat.mod_lt _ (by omega)
  have hr2 : a.natAbs % b.natAbs ≤ a.natAbs := Nat.mod_le _ _
  refine refDiv_core (decide (a < 0)) (decide (b < 0)) a b a.natAbs b.natAbs w ⟨⟨ha0, ha1⟩, rfl⟩ ⟨⟨hb0, hb1⟩, rfl⟩ hb (by omega) (by omega) (by omega) rfl rfl _ _ ?_ ?_
  · rw [tdiv_signs]
    split
    · rfl
    · exact (neg_end _ _ (Nat.mod_eq_of_lt hq).symm).symm
  · rw [tmod_signs]
    split
    · rename_i h
      rw [neg_end _ _ (Nat.mod_eq_of_lt (by omega)).symm, wrap_in _ (by omega) (by omega)]
    · rename_i h
      have : ¬ a < 0 := by simpa using h
      rw [wrap_in _ (by omega) (by omega)]

theorem u_add (a b : Int) : wrap64 (IntKind.u64.wrap (IntKind.u64.wrap a + IntKind.u64.wrap b)) = wrap64 (a + b) := by
  unfold wrap64; simp only [IntKind.wrap, IntKind.bits, IntKind.signed]; simp <;> omega
theorem u_sub (a b : Int) : wrap64 (IntKind.u64.wrap (IntKind.u64.wrap a - IntKind.u64.wrap b)) = wrap64 (a - b) := by
  unfold wrap64; simp only [IntKind.wrap, IntKind.bits, IntKind.signed]; simp <;> omega
theorem u_neg (a : Int) : wrap64 (IntKind.u64.wrap (-(IntKind.u64.wrap a))) = wrap64 (-a) := by
  unfold wrap64; simp only [IntKind.wrap, IntKind.bits, IntKind.signed]; simp <;> omega

set_option maxRecDepth 1000000 in
set_option maxHeartbeats 3200000 in
theorem lawWhole_core (a b Q R : Int) (k : Bool) (w : World) (ha0 : -9223372036854775808 ≤ a) (ha1 : a ≤ 9223372036854775807) (hb0 : -9223372036854775808 ≤ b) (hb1 : b ≤ 9223372036854775807) (h : Glob w)
    (HD : RowKit.Hid (∀ w, Calls Tryz.prog 45 #[.int .i64 a, .int .i64 b] w fun e w' => e = .returned (.tuple #[.int .i64 Q, .bool k]) ∧ w = w'))
    (HM : RowKit.Hid (∀ w, Calls Tryz.prog 46 #[.int .i64 a, .int .i64 b] w fun e w' => e = .returned (.tuple #[.int .i64 R, .bool k]) ∧ w = w'))
    (HR : RowKit.Hid (∀ w, Calls Tryz.prog 47 #[.int .i64 a, .int .i64 b] w fun e w' => e = .returned (.tuple #[.int .i64 Q, .int .i64 R, .bool k]) ∧ w = w')) :
    Calls Tryz.prog 11 #[.int .i64 a, .int .i64 b] w fun e w' => e = .returned (.bool true) ∧ Below w.heap.size w w' := by
  have HA := Lib.hid (fun w => add_any a b w)
  have HS := Lib.hid (fun w => sub_any a b w)
  have HN := Lib.hid (fun w => neg_any a w)
  have HU := Lib.hid (fun w => mul_any a b w)
  have HX := Lib.hid (refMul_any a b ha0 ha1 hb0 hb1 w)
  have HW := Lib.hid (fun w' hb' => glob_awake w w' h hb')
  have e1 := u_add a b
  have e2 := u_sub a b
  have e3 := u_neg a
  clear h
  go_enter Tryz.func11, Tryz.ntmps11
  go_wp2_with (first | (go_at_call 45; refine (HD.out _).mono ?_; rintro e w1 ⟨rfl, rfl⟩) | (go_at_call 46; refine (HM.out _).mono ?_; rintro e w1 ⟨rfl, rfl⟩) | (go_at_call 47; refine (HR.out _).mono ?_; rintro e w1 ⟨rfl, rfl⟩) | (go_at_call 29; refine (HA.out _).mono ?_; rintro e w1 ⟨rfl, rfl⟩) | (go_at_call 31; refine (HS.out _).mono ?_; rintro e w1 ⟨rfl, rfl⟩) | (go_at_call 32; refine (HN.out _).mono ?_; rintro e w1 ⟨rfl, rfl⟩) | (go_at_call 30; refine (HU.out _).mono ?_; rintro e w1 ⟨rfl, rfl⟩) | (go_at_call 48; refine HX.out.mono ?_; rintro e w1 ⟨rfl, hb2⟩) | (go_at_call 18; refine (HW.out _ hb2).mono ?_; rintro e w2 ⟨rfl, hb3⟩))
  go_ret
  exact ⟨rfl, hb3⟩
theorem lawWhole (a b : Int) (w : World) (ha0 : -9223372036854775808 ≤ a) (ha1 : a ≤ 9223372036854775807) (hb0 : -9223372036854775808 ≤ b) (hb1 : b ≤ 9223372036854775807) (h : Glob w) :
    Calls Tryz.prog 11 #[.int .i64 a, .int .i64 b] w fun e w' => e = .returned (.bool true) ∧ Below w.heap.size w w' := by
  by_cases hb : b = 0
  · subst hb
    exact lawWhole_core a 0 0 0 false w ha0 ha1 hb0 hb1 h (fun w => div_zero a w) (fun w => rem_zero a w) (fun w => refDiv_zero a w)
  · exact lawWhole_core a b _ _ true w ha0 ha1 hb0 hb1 h (fun w => div_any a b w hb) (fun w => rem_any a b w hb) (fun w => refDiv_any a b ha0 ha1 hb0 hb1 hb w)
end Go.Proofs.YtoonneminimbfaaGreatDoor
