/- emendref01.FDiv, case by case. -/
import Derived.Test.YtoonneminimbfaaGreatDoorParts
namespace Go.Proofs.YtoonneminimbfaaGreatDoor
open Go.RowKit
set_option linter.unusedVariables false
set_option linter.unusedSimpArgs false

set_option maxRecDepth 100000 in
theorem fdiv_n1 (a b : Nat) (s t : Bool) (w : World) (hGa : GG a s) (hGb : GG b t) (hNa : NN a true) :
    Calls Tryz.prog 42 #[.int .u64 a, .int .u64 b] w fun e w' => e = .returned (.int .u64 9221120237041090561) ∧ Below w.heap.size w w' := by
  cases s <;> cases t
  all_goals
    go_enter Tryz.func42, Tryz.ntmps42
    go_wp2_with (first | (go_at_call 67; refine Calls.mono (nn_at _ _ _ (by assumption)) ?_; rintro e wx ⟨rfl, rfl⟩) | (go_at_call 69; refine Calls.mono (ii_at _ _ _ (by assumption)) ?_; rintro e wx ⟨rfl, rfl⟩) | (go_at_call 73; refine Calls.mono (zz_at _ _ _ (by assumption)) ?_; rintro e wx ⟨rfl, rfl⟩) | (go_at_call 70; refine Calls.mono (gg_at _ _ _ (by assumption)) ?_; rintro e wx ⟨rfl, rfl⟩) | (go_at_call 68; refine Calls.mono (spl_at _ _ _ _ (by assumption)) ?_; rintro e wx ⟨rfl, rfl⟩))
    go_ret
    exact ⟨rfl, Below.refl _ _⟩
set_option maxRecDepth 100000 in
theorem fdiv_n2 (a b : Nat) (s t : Bool) (w : World) (hGa : GG a s) (hGb : GG b t) (hNa : NN a false) (hNb : NN b true) :
    Calls Tryz.prog 42 #[.int .u64 a, .int .u64 b] w fun e w' => e = .returned (.int .u64 9221120237041090561) ∧ Below w.heap.size w w' := by
  cases s <;> cases t
  all_goals
    go_enter Tryz.func42, Tryz.ntmps42
    go_wp2_with (first | (go_at_call 67; refine Calls.mono (nn_at _ _ _ (by assumption)) ?_; rintro e wx ⟨rfl, rfl⟩) | (go_at_call 69; refine Calls.mono (ii_at _ _ _ (by assumption)) ?_; rintro e wx ⟨rfl, rfl⟩) | (go_at_call 73; refine Calls.mono (zz_at _ _ _ (by assumption)) ?_; rintro e wx ⟨rfl, rfl⟩) | (go_at_call 70; refine Calls.mono (gg_at _ _ _ (by assumption)) ?_; rintro e wx ⟨rfl, rfl⟩) | (go_at_call 68; refine Calls.mono (spl_at _ _ _ _ (by assumption)) ?_; rintro e wx ⟨rfl, rfl⟩))
    go_ret
    exact ⟨rfl, Below.refl _ _⟩
set_option maxRecDepth 100000 in
theorem fdiv_n3 (a b : Nat) (s t : Bool) (w : World) (hGa : GG a s) (hGb : GG b t) (hNa : NN a false) (hNb : NN b false) (hIa : II a true) (hIb : II b true) :
    Calls Tryz.prog 42 #[.int .u64 a, .int .u64 b] w fun e w' => e = .returned (.int .u64 9221120237041090561) ∧ Below w.heap.size w w' := by
  cases s <;> cases t
  all_goals
    go_enter Tryz.func42, Tryz.ntmps42
    go_wp2_with (first | (go_at_call 67; refine Calls.mono (nn_at _ _ _ (by assumption)) ?_; rintro e wx ⟨rfl, rfl⟩) | (go_at_call 69; refine Calls.mono (ii_at _ _ _ (by assumption)) ?_; rintro e wx ⟨rfl, rfl⟩) | (go_at_call 73; refine Calls.mono (zz_at _ _ _ (by assumption)) ?_; rintro e wx ⟨rfl, rfl⟩) | (go_at_call 70; refine Calls.mono (gg_at _ _ _ (by assumption)) ?_; rintro e wx ⟨rfl, rfl⟩) | (go_at_call 68; refine Calls.mono (spl_at _ _ _ _ (by assumption)) ?_; rintro e wx ⟨rfl, rfl⟩))
    go_ret
    exact ⟨rfl, Below.refl _ _⟩
set_option maxRecDepth 100000 in
theorem fdiv_n4 (a b : Nat) (s t : Bool) (w : World) (hGa : GG a s) (hGb : GG b t) (hNa : NN a false) (hNb : NN b false) (hIa : II a false) (hZa : ZZ a true) (hZb : ZZ b true) :
    Calls Tryz.prog 42 #[.int .u64 a, .int .u64 b] w fun e w' => e = .returned (.int .u64 9221120237041090561) ∧ Below w.heap.size w w' := by
  cases s <;> cases t
  all_goals
    go_enter Tryz.func42, Tryz.ntmps42
    go_wp2_with (first | (go_at_call 67; refine Calls.mono (nn_at _ _ _ (by assumption)) ?_; rintro e wx ⟨rfl, rfl⟩) | (go_at_call 69; refine Calls.mono (ii_at _ _ _ (by assumption)) ?_; rintro e wx ⟨rfl, rfl⟩) | (go_at_call 73; refine Calls.mono (zz_at _ _ _ (by assumption)) ?_; rintro e wx ⟨rfl, rfl⟩) | (go_at_call 70; refine Calls.mono (gg_at _ _ _ (by assumption)) ?_; rintro e wx ⟨rfl, rfl⟩) | (go_at_call 68; refine Calls.mono (spl_at _ _ _ _ (by assumption)) ?_; rintro e wx ⟨rfl, rfl⟩))
    go_ret
    exact ⟨rfl, Below.refl _ _⟩
set_option maxRecDepth 100000 in
theorem fdiv_i1 (a b : Nat) (s t : Bool) (w : World) (hGa : GG a s) (hGb : GG b t) (hNa : NN a false) (hNb : NN b false) (hIa : II a true) (hIb : II b false) (hZa : ZZ a false) :
    Calls Tryz.prog 42 #[.int .u64 a, .int .u64 b] w fun e w' => e = .returned (.int .u64 (Ieee.double.word (s ^^ t) 9218868437227405312 : Nat)) ∧ Below w.heap.size w w' := by
  cases s <;> cases t
  all_goals
    go_enter Tryz.func42, Tryz.ntmps42
    go_wp2_with (first | (go_at_call 67; refine Calls.mono (nn_at _ _ _ (by assumption)) ?_; rintro e wx ⟨rfl, rfl⟩) | (go_at_call 69; refine Calls.mono (ii_at _ _ _ (by assumption)) ?_; rintro e wx ⟨rfl, rfl⟩) | (go_at_call 73; refine Calls.mono (zz_at _ _ _ (by assumption)) ?_; rintro e wx ⟨rfl, rfl⟩) | (go_at_call 70; refine Calls.mono (gg_at _ _ _ (by assumption)) ?_; rintro e wx ⟨rfl, rfl⟩) | (go_at_call 68; refine Calls.mono (spl_at _ _ _ _ (by assumption)) ?_; rintro e wx ⟨rfl, rfl⟩) | (go_at_call 74; refine Calls.mono (signed_top _ _) ?_; rintro e wx ⟨rfl, rfl⟩))
    go_ret
    exact ⟨rfl, Below.refl _ _⟩
set_option maxRecDepth 100000 in
theorem fdiv_i2 (a b : Nat) (s t : Bool) (w : World) (hGa : GG a s) (hGb : GG b t) (hNa : NN a false) (hNb : NN b false) (hIa : II a false) (hZa : ZZ a false) (hZb : ZZ b true) :
    Calls Tryz.prog 42 #[.int .u64 a, .int .u64 b] w fun e w' => e = .returned (.int .u64 (Ieee.double.word (s ^^ t) 9218868437227405312 : Nat)) ∧ Below w.heap.size w w' := by
  cases s <;> cases t
  all_goals
    go_enter Tryz.func42, Tryz.ntmps42
    go_wp2_with (first | (go_at_call 67; refine Calls.mono (nn_at _ _ _ (by assumption)) ?_; rintro e wx ⟨rfl, rfl⟩) | (go_at_call 69; refine Calls.mono (ii_at _ _ _ (by assumption)) ?_; rintro e wx ⟨rfl, rfl⟩) | (go_at_call 73; refine Calls.mono (zz_at _ _ _ (by assumption)) ?_; rintro e wx ⟨rfl, rfl⟩) | (go_at_call 70; refine Calls.mono (gg_at _ _ _ (by assumption)) ?_; rintro e wx ⟨rfl, rfl⟩) | (go_at_call 68; refine Calls.mono (spl_at _ _ _ _ (by assumption)) ?_; rintro e wx ⟨rfl, rfl⟩) | (go_at_call 74; refine Calls.mono (signed_top _ _) ?_; rintro e wx ⟨rfl, rfl⟩))
    go_ret
    exact ⟨rfl, Below.refl _ _⟩
set_option maxRecDepth 100000 in
theorem fdiv_z1 (a b : Nat) (s t : Bool) (w : World) (hGa : GG a s) (hGb : GG b t) (hNa : NN a false) (hNb : NN b false) (hIa : II a false) (hZa : ZZ a true) (hZb : ZZ b false) :
    Calls Tryz.prog 42 #[.int .u64 a, .int .u64 b] w fun e w' => e = .returned (.int .u64 (Ieee.double.word (s ^^ t) 0 : Nat)) ∧ Below w.heap.size w w' := by
  cases s <;> cases t
  all_goals
    go_enter Tryz.func42, Tryz.ntmps42
    go_wp2_with (first | (go_at_call 67; refine Calls.mono (nn_at _ _ _ (by assumption)) ?_; rintro e wx ⟨rfl, rfl⟩) | (go_at_call 69; refine Calls.mono (ii_at _ _ _ (by assumption)) ?_; rintro e wx ⟨rfl, rfl⟩) | (go_at_call 73; refine Calls.mono (zz_at _ _ _ (by assumption)) ?_; rintro e wx ⟨rfl, rfl⟩) | (go_at_call 70; refine Calls.mono (gg_at _ _ _ (by assumption)) ?_; rintro e wx ⟨rfl, rfl⟩) | (go_at_call 68; refine Calls.mono (spl_at _ _ _ _ (by assumption)) ?_; rintro e wx ⟨rfl, rfl⟩) | (go_at_call 74; refine Calls.mono (signed_zero _ _) ?_; rintro e wx ⟨rfl, rfl⟩))
    go_ret
    exact ⟨rfl, Below.refl _ _⟩
set_option maxRecDepth 100000 in
theorem fdiv_z2 (a b : Nat) (s t : Bool) (w : World) (hGa : GG a s) (hGb : GG b t) (hNa : NN a false) (hNb : NN b false) (hIa : II a false) (hZa : ZZ a false) (hZb : ZZ b false) (hIb : II b true) :
    Calls Tryz.prog 42 #[.int .u64 a, .int .u64 b] w fun e w' => e = .returned (.int .u64 (Ieee.double.word (s ^^ t) 0 : Nat)) ∧ Below w.heap.size w w' := by
  cases s <;> cases t
  all_goals
    go_enter Tryz.func42, Tryz.ntmps42
    go_wp2_with (first | (go_at_call 67; refine Calls.mono (nn_at _ _ _ (by assumption)) ?_; rintro e wx ⟨rfl, rfl⟩) | (go_at_call 69; refine Calls.mono (ii_at _ _ _ (by assumption)) ?_; rintro e wx ⟨rfl, rfl⟩) | (go_at_call 73; refine Calls.mono (zz_at _ _ _ (by assumption)) ?_; rintro e wx ⟨rfl, rfl⟩) | (go_at_call 70; refine Calls.mono (gg_at _ _ _ (by assumption)) ?_; rintro e wx ⟨rfl, rfl⟩) | (go_at_call 68; refine Calls.mono (spl_at _ _ _ _ (by assumption)) ?_; rintro e wx ⟨rfl, rfl⟩) | (go_at_call 74; refine Calls.mono (signed_zero _ _) ?_; rintro e wx ⟨rfl, rfl⟩))
    go_ret
    exact ⟨rfl, Below.refl _ _⟩
set_option maxRecDepth 100000 in
set_option maxHeartbeats 3200000 in
theorem fdiv_fin (a b m n : Nat) (i j low : Int) (s t : Bool) (w : World) (hGa : GG a s) (hGb : GG b t) (hNa : NN a false) (hNb : NN b false) (hIa : II a false) (hIb : II b false) (hZa : ZZ a false) (hZb : ZZ b false) (hsa : SPL a m i) (hsb : SPL b n j) (hm : m < 9007199254740992) (hn : n < 9007199254740992) (hm0 : m ≠ 0) (hn0 : n ≠ 0)
    (hi0 : -1074 ≤ i) (hi1 : i ≤ 972) (hj0 : -1074 ≤ j) (hj1 : j ≤ 972) (hlow : i - j = low) :
    Calls Tryz.prog 42 #[.int .u64 a, .int .u64 b] w fun e w' => e = .returned (.int .u64 (Ieee.double.word (s ^^ t) (rd (m * 2 ^ low.toNat * 2 ^ k1074) (n * 2 ^ (-low).toNat)) : Nat)) ∧ Below w.heap.size w w' := by
  have hl0 : -2148 ≤ low := by omega
  have hl1 : low ≤ 2046 := by omega
  have HM := Lib.hid hm
  have HN := Lib.hid hn
  have HM0 := Lib.hid hm0
  have HN0 := Lib.hid hn0
  clear hm hn hm0 hn0
  cases s <;> cases t
  all_goals
    go_enter Tryz.func42, Tryz.ntmps42
    go_wp2_with (first | (go_at_call 67; refine Calls.mono (nn_at _ _ _ (by assumption)) ?_; rintro e wx ⟨rfl, rfl⟩) | (go_at_call 69; refine Calls.mono (ii_at _ _ _ (by assumption)) ?_; rintro e wx ⟨rfl, rfl⟩) | (go_at_call 73; refine Calls.mono (zz_at _ _ _ (by assumption)) ?_; rintro e wx ⟨rfl, rfl⟩) | (go_at_call 70; refine Calls.mono (gg_at _ _ _ (by assumption)) ?_; rintro e wx ⟨rfl, rfl⟩) | (go_at_call 68; refine Calls.mono (spl_at _ _ _ _ (by assumption)) ?_; rintro e wx ⟨rfl, rfl⟩))
    refine (of_big m (by have := HM.out; omega) _).mono ?_
    rintro e w1 ⟨⟨A1, c1, rfl, _, r1⟩, hb1⟩
    have HB1 := Lib.hid hb1
    have HR1 := Lib.hid r1
    clear r1 hb1
    go_wp2_with fail
    refine (of_big n (by have := HN.out; omega) _).mono ?_
    rintro e w2 ⟨⟨A2, c2, rfl, _, r2⟩, hb2⟩
    have HB2 := Lib.hid (below_then HB1.out hb2)
    have HS6 := Lib.hid (scaled_any m n low A1 A2 c1 c2 w2 (by have := len53 m HM.out; omega) (by have := len53 n HN.out; omega) (by omega) (by omega) (HR1.out.after (Nat.le_refl _) hb2) r2)
    have HB6 := HB2
    clear r2 hb2
    go_wp2_with fail
    refine HS6.out.mono ?_
    rintro e w7 ⟨⟨A7, c7, B7, d7, rfl, r7, s7⟩, hb7⟩
    have HB7 := Lib.hid (below_then HB6.out hb7)
    have HRO := fun z => round_any z (m * 2 ^ low.toNat) (n * 2 ^ (-low).toNat) A7 B7 c7 d7 w7 (Nat.mul_ne_zero HM0.out (Nat.pos_iff_ne_zero.1 (Nat.two_pow_pos _))) (Nat.mul_ne_zero HN0.out (Nat.pos_iff_ne_zero.1 (Nat.two_pow_pos _)))
      (by have := len_up m low.toNat 4 (len53 m HM.out); omega) (by have := len_up n (-low).toNat 4 (len53 n HN.out); omega) r7 s7
    skip
    replace HRO := Lib.hid HRO
    clear r7 s7 hb7
    go_wp2_with (first | (go_at_call 67; refine Calls.mono (nn_at _ _ _ (by assumption)) ?_; rintro e wx ⟨rfl, rfl⟩) | (go_at_call 69; refine Calls.mono (ii_at _ _ _ (by assumption)) ?_; rintro e wx ⟨rfl, rfl⟩) | (go_at_call 73; refine Calls.mono (zz_at _ _ _ (by assumption)) ?_; rintro e wx ⟨rfl, rfl⟩) | (go_at_call 70; refine Calls.mono (gg_at _ _ _ (by assumption)) ?_; rintro e wx ⟨rfl, rfl⟩) | (go_at_call 68; refine Calls.mono (spl_at _ _ _ _ (by assumption)) ?_; rintro e wx ⟨rfl, rfl⟩))
    refine (HRO.out _).mono ?_
    rintro e w8 ⟨rfl, hb8⟩
    have HB8 := Lib.hid (below_then HB7.out hb8)
    clear hb8
    go_wp2_with fail
    go_ret
    exact ⟨rfl, HB8.out⟩
end Go.Proofs.YtoonneminimbfaaGreatDoor
