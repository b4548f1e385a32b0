/- emendref01.ToFloat, ToInt. -/
import Derived.Test.YtoonneminimbfaaGreatDoorRound
import Derived.Test.YtoonneminimbfaaGreatDoorToI
namespace Go.Proofs.YtoonneminimbfaaGreatDoor
open Go.RowKit
set_option linter.unusedVariables false
set_option linter.unusedSimpArgs false

theorem nr_int (m : Nat) (hm : m < 18446744073709551616) : nr m 0 = rungI m := by
  have h1 := nearest_nr false m 0
  rw [nearest_int false m hm] at h1
  have : ∀ r, Ieee.double.word false r = r := fun r => by unfold Ieee.Format.word; rw [if_neg (by decide)]
  rw [this, this] at h1
  exact h1.symm
theorem rd_k (m : Nat) : rd (m * 2 ^ k1074) 1 = nr m 0 := by
  rw [nr_eq m 0 k1074 0 (by rw [k1074_eq]; rfl)]
  first | done | rfl
theorem of_one (w : World) : Calls Tryz.prog 59 #[.int .u64 1] w fun e w' => RetBig 1 e w' ∧ Below w.heap.size w w' := of_big 1 (by decide) w

theorem refToFloat_zero (w : World) : Calls Tryz.prog 27 #[.int .i64 0] w fun e w' => e = .returned (.int .u64 (tf 0 : Nat)) ∧ Below w.heap.size w w' := by
  go_enter Tryz.func27, Tryz.ntmps27
  go_wp2_with fail
  go_ret
  exact ⟨by rw [show tf 0 = 0 by decide +kernel]; rfl, Below.refl _ _⟩
set_option maxRecDepth 100000 in
set_option maxHeartbeats 3200000 in
theorem refToFloat_core (s : Bool) (a : Int) (n : Nat) (w : World) (h1 : SZ a n) (ha : a ≠ 0) (hn : n < 18446744073709551616) (hn0 : n ≠ 0) (da : decide (a < 0) = s) :
    Calls Tryz.prog 27 #[.int .i64 a] w fun e w' => e = .returned (.int .u64 (Ieee.double.word s (rungI n) : Nat)) ∧ Below w.heap.size w w' := by
  have HS := Lib.hid (size_sz a n w h1)
  have hlen : (dg16 n).length ≤ 4 := dg16_len 4 n (by simpa using hn)
  have hlen1 : (dg16 1).length ≤ 4 := dg16_len 4 1 (by decide)
  have HO := Lib.hid (of_big n hn w)
  have HR := Lib.hid (show rd (n * 2 ^ k1074) 1 = rungI n by rw [rd_k, nr_int n hn])
  have ha1 : (a == 0) = false := by simpa using ha
  have HL := Lib.hid hlen
  have HL1 := Lib.hid hlen1
  have HN0 := Lib.hid hn0
  clear hlen hlen1 h1 hn0
  go_enter Tryz.func27, Tryz.ntmps27
  go_wp2_with (first | (go_at_call 63; refine HS.out.mono ?_; rintro e w' ⟨rfl, rfl⟩))
  refine HO.out.mono ?_
  rintro e w1 ⟨⟨A1, c1, rfl, _, r1⟩, hb1⟩
  have HO1 := Lib.hid (of_one w1)
  have HB1 := Lib.hid hb1
  have HR1 := Lib.hid r1
  clear hb1 r1
  go_wp2_with fail
  refine HO1.out.mono ?_
  rintro e w2 ⟨⟨A2, c2, rfl, _, r2⟩, hb2⟩
  have HRO := round_any s n 1 A1 A2 c1 c2 w2 HN0.out (by decide) (by have := HL.out; omega) (by have := HL1.out; omega) (HR1.out.after (Nat.le_refl _) hb2) r2
  rw [HR.out] at HRO
  replace HRO := Lib.hid HRO
  have HB2 := Lib.hid (below_then HB1.out hb2)
  clear hb2 r2
  go_wp2_with fail
  refine HRO.out.mono ?_
  rintro e w3 ⟨rfl, hb3⟩
  have HB3 := Lib.hid (below_then HB2.out hb3)
  clear hb3
  go_wp2_with fail
  go_ret
  exact ⟨rfl, HB3.out⟩
theorem refToFloat_any (a : Int) (h0 : -9223372036854775808 ≤ a) (h1 : a ≤ 9223372036854775807) (w : World) : Calls Tryz.prog 27 #[.int .i64 a] w fun e w' => e = .returned (.int .u64 (tf a : Nat)) ∧ Below w.heap.size w w' := by
  by_cases h : a = 0
  · subst h; exact refToFloat_zero w
  · exact refToFloat_core (decide (a < 0)) a a.natAbs w ⟨⟨h0, h1⟩, rfl⟩ h (by omega) (by omega) rfl
end Go.Proofs.YtoonneminimbfaaGreatDoor
