/- emendref01.FAdd, case by case. -/
import Derived.Test.YtoonneminimbfaaGreatDoorParts
namespace Go.Proofs.YtoonneminimbfaaGreatDoor
open Go.RowKit
set_option linter.unusedVariables false
set_option linter.unusedSimpArgs false

set_option maxRecDepth 100000 in
set_option maxHeartbeats 1600000 in
theorem fadd_sf (a b m n u v x y : Nat) (i j low : Int) (w : World) (hNa : NN a false) (hNb : NN b false) (hIa : II a false) (hIb : II b false) (hZa : ZZ a false) (hZb : ZZ b false) (hGa : GG a false) (hGb : GG b false) (hsa : SPL a m i) (hsb : SPL b n j) (hm : m < 9007199254740992) (hn : n < 9007199254740992)
    (hi0 : -1074 ≤ i) (hi1 : i ≤ 972) (hj0 : -1074 ≤ j) (hj1 : j ≤ 972) (hlow : min i j = low) (hu : i - low = (u : Int)) (hv : j - low = (v : Int)) (hx : m * 2 ^ u = x) (hy : n * 2 ^ v = y) (hz : x ≠ 0) :
    Calls Tryz.prog 38 #[.int .u64 a, .int .u64 b] w fun e w' => e = .returned (.int .u64 (Ieee.double.word false (nr (x + y) low) : Nat)) ∧ Below w.heap.size w w' := by
  have hl0 : -1074 ≤ low := by omega
  have hl1 : low ≤ 972 := by omega
  have hu2 : u ≤ 2046 := by omega
  have hv2 : v ≤ 2046 := by omega
  have hlx : (dg16 x).length ≤ 132 := by have := len_up m u 4 (len53 m hm); rw [hx] at this; omega
  have hly : (dg16 y).length ≤ 132 := by have := len_up n v 4 (len53 n hn); rw [hy] at this; omega
  have HLX := Lib.hid hlx
  have HLY := Lib.hid hly
  have HX := Lib.hid hx
  have HY := Lib.hid hy
  have HM := Lib.hid hm
  have HN := Lib.hid hn
  have HZE := Lib.hid hz
  clear hz hx hy hlx hly hm hn
  go_enter Tryz.func38, Tryz.ntmps38
  go_wp2_with (first | (go_at_call 67; refine Calls.mono (nn_at _ _ _ (by assumption)) ?_; rintro e wx ⟨rfl, rfl⟩) | (go_at_call 69; refine Calls.mono (ii_at _ _ _ (by assumption)) ?_; rintro e wx ⟨rfl, rfl⟩) | (go_at_call 73; refine Calls.mono (zz_at _ _ _ (by assumption)) ?_; rintro e wx ⟨rfl, rfl⟩) | (go_at_call 70; refine Calls.mono (gg_at _ _ _ (by assumption)) ?_; rintro e wx ⟨rfl, rfl⟩) | (go_at_call 68; refine Calls.mono (spl_at _ _ _ _ (by assumption)) ?_; rintro e wx ⟨rfl, rfl⟩))
  refine (of_big m (by have := HM.out; omega) _).mono ?_
  rintro e w1 ⟨⟨A1, c1, rfl, _, r1⟩, hb1⟩
  have HB1 := Lib.hid hb1
  have HU1 := up_big m u A1 c1 w1 (by have := len53 m HM.out; omega) r1
  rw [HX.out] at HU1
  replace HU1 := Lib.hid HU1
  clear r1 hb1
  go_wp2_with fail
  refine HU1.out.mono ?_
  rintro e w2 ⟨⟨A2, c2, rfl, _, r2⟩, hb2⟩
  have HB2 := Lib.hid (below_then HB1.out hb2)
  have HR2 := Lib.hid r2
  clear r2 hb2
  go_wp2_with fail
  refine (of_big n (by have := HN.out; omega) _).mono ?_
  rintro e w3 ⟨⟨A3, c3, rfl, _, r3⟩, hb3⟩
  have HB3 := Lib.hid (below_then HB2.out hb3)
  have HR3 := Lib.hid (HR2.out.after (Nat.le_refl _) hb3)
  have HU3 := up_big n v A3 c3 w3 (by have := len53 n HN.out; omega) r3
  rw [HY.out] at HU3
  replace HU3 := Lib.hid HU3
  clear r3 hb3
  go_wp2_with fail
  refine HU3.out.mono ?_
  rintro e w4 ⟨⟨A4, c4, rfl, _, r4⟩, hb4⟩
  have HB4 := Lib.hid (below_then HB3.out hb4)
  have HRX := Lib.hid (HR3.out.after (Nat.le_refl _) hb4)
  have HRY := Lib.hid r4
  clear r4 hb4
  have hz := HZE.out
  have HZ := HZE
  have HSU := Lib.hid (sum_any x y A2 A4 c2 c4 w4 (by have := HLX.out; omega) (by have := HLY.out; omega) HRX.out HRY.out)
  clear hz
  go_wp2_with (first | (go_at_call 67; refine Calls.mono (nn_at _ _ _ (by assumption)) ?_; rintro e wx ⟨rfl, rfl⟩) | (go_at_call 69; refine Calls.mono (ii_at _ _ _ (by assumption)) ?_; rintro e wx ⟨rfl, rfl⟩) | (go_at_call 73; refine Calls.mono (zz_at _ _ _ (by assumption)) ?_; rintro e wx ⟨rfl, rfl⟩) | (go_at_call 70; refine Calls.mono (gg_at _ _ _ (by assumption)) ?_; rintro e wx ⟨rfl, rfl⟩) | (go_at_call 68; refine Calls.mono (spl_at _ _ _ _ (by assumption)) ?_; rintro e wx ⟨rfl, rfl⟩))
  refine HSU.out.mono ?_
  rintro e w5 ⟨⟨A5, c5, rfl, _, r5⟩, hb5⟩
  have HB5 := Lib.hid (below_then HB4.out hb5)
  have HR5 := Lib.hid r5
  clear r5 hb5
  have HLS := Lib.hid (show (dg16 (x + y)).length ≤ 133 by exact len_sum x y 132 HLX.out HLY.out)
  have HSN := Lib.hid (show (x + y) ≠ 0 by have := HZ.out; omega)
  go_wp2_with fail
  refine (of_one _).mono ?_
  rintro e w6 ⟨⟨A6, c6, rfl, _, r6⟩, hb6⟩
  have HB6 := Lib.hid (below_then HB5.out hb6)
  obtain ⟨Q, hQ⟩ : ∃ Q, 1 * 2 ^ (-low).toNat = Q := ⟨_, rfl⟩
  obtain ⟨PP, hP⟩ : ∃ PP, (x + y) * 2 ^ low.toNat = PP := ⟨_, rfl⟩
  have HS6 := scaled_any (x + y) 1 low A5 A6 c5 c6 w6 (by have := HLS.out; omega) (by have := len_one; omega) (by omega) (by omega) (HR5.out.after (Nat.le_refl _) hb6) r6
  rw [hQ, hP] at HS6
  replace HS6 := Lib.hid HS6
  have HNR := Lib.hid (show rd (PP * 2 ^ k1074) Q = nr (x + y) low by rw [← hP, ← hQ]; exact nr_sc _ _)
  have HP0 := Lib.hid (show PP ≠ 0 by rw [← hP]; exact Nat.mul_ne_zero HSN.out (Nat.pos_iff_ne_zero.1 (Nat.two_pow_pos _)))
  have HQ0 := Lib.hid (show Q ≠ 0 by rw [← hQ]; exact Nat.mul_ne_zero (by decide) (Nat.pos_iff_ne_zero.1 (Nat.two_pow_pos _)))
  have HPL := Lib.hid (show (dg16 PP).length ≤ 250 by rw [← hP]; have := len_up (x + y) low.toNat 133 HLS.out; omega)
  have HQL := Lib.hid (show (dg16 Q).length ≤ 250 by rw [← hQ]; have := len_up 1 (-low).toNat 1 len_one; omega)
  clear hQ hP
  clear r6 hb6
  go_wp2_with fail
  refine HS6.out.mono ?_
  rintro e w7 ⟨⟨A7, c7, B7, d7, rfl, r7, s7⟩, hb7⟩
  have HB7 := Lib.hid (below_then HB6.out hb7)
  have HRO := round_any false PP Q A7 B7 c7 d7 w7 HP0.out HQ0.out HPL.out HQL.out r7 s7
  rw [HNR.out] at HRO
  replace HRO := Lib.hid HRO
  clear r7 s7 hb7
  go_wp2_with (first | (go_at_call 67; refine Calls.mono (nn_at _ _ _ (by assumption)) ?_; rintro e wx ⟨rfl, rfl⟩) | (go_at_call 69; refine Calls.mono (ii_at _ _ _ (by assumption)) ?_; rintro e wx ⟨rfl, rfl⟩) | (go_at_call 73; refine Calls.mono (zz_at _ _ _ (by assumption)) ?_; rintro e wx ⟨rfl, rfl⟩) | (go_at_call 70; refine Calls.mono (gg_at _ _ _ (by assumption)) ?_; rintro e wx ⟨rfl, rfl⟩) | (go_at_call 68; refine Calls.mono (spl_at _ _ _ _ (by assumption)) ?_; rintro e wx ⟨rfl, rfl⟩))
  refine HRO.out.mono ?_
  rintro e w8 ⟨rfl, hb8⟩
  have HB8 := Lib.hid (below_then HB7.out hb8)
  clear hb8
  go_wp2_with fail
  go_ret
  exact ⟨rfl, HB8.out⟩
set_option maxRecDepth 100000 in
set_option maxHeartbeats 1600000 in
theorem fadd_st (a b m n u v x y : Nat) (i j low : Int) (w : World) (hNa : NN a false) (hNb : NN b false) (hIa : II a false) (hIb : II b false) (hZa : ZZ a false) (hZb : ZZ b false) (hGa : GG a true) (hGb : GG b true) (hsa : SPL a m i) (hsb : SPL b n j) (hm : m < 9007199254740992) (hn : n < 9007199254740992)
    (hi0 : -1074 ≤ i) (hi1 : i ≤ 972) (hj0 : -1074 ≤ j) (hj1 : j ≤ 972) (hlow : min i j = low) (hu : i - low = (u : Int)) (hv : j - low = (v : Int)) (hx : m * 2 ^ u = x) (hy : n * 2 ^ v = y) (hz : x ≠ 0) :
    Calls Tryz.prog 38 #[.int .u64 a, .int .u64 b] w fun e w' => e = .returned (.int .u64 (Ieee.double.word true (nr (x + y) low) : Nat)) ∧ Below w.heap.size w w' := by
  have hl0 : -1074 ≤ low := by omega
  have hl1 : low ≤ 972 := by omega
  have hu2 : u ≤ 2046 := by omega
  have hv2 : v ≤ 2046 := by omega
  have hlx : (dg16 x).length ≤ 132 := by have := len_up m u 4 (len53 m hm); rw [hx] at this; omega
  have hly : (dg16 y).length ≤ 132 := by have := len_up n v 4 (len53 n hn); rw [hy] at this; omega
  have HLX := Lib.hid hlx
  have HLY := Lib.hid hly
  have HX := Lib.hid hx
  have HY := Lib.hid hy
  have HM := Lib.hid hm
  have HN := Lib.hid hn
  have HZE := Lib.hid hz
  clear hz hx hy hlx hly hm hn
  go_enter Tryz.func38, Tryz.ntmps38
  go_wp2_with (first | (go_at_call 67; refine Calls.mono (nn_at _ _ _ (by assumption)) ?_; rintro e wx ⟨rfl, rfl⟩) | (go_at_call 69; refine Calls.mono (ii_at _ _ _ (by assumption)) ?_; rintro e wx ⟨rfl, rfl⟩) | (go_at_call 73; refine Calls.mono (zz_at _ _ _ (by assumption)) ?_; rintro e wx ⟨rfl, rfl⟩) | (go_at_call 70; refine Calls.mono (gg_at _ _ _ (by assumption)) ?_; rintro e wx ⟨rfl, rfl⟩) | (go_at_call 68; refine Calls.mono (spl_at _ _ _ _ (by assumption)) ?_; rintro e wx ⟨rfl, rfl⟩))
  refine (of_big m (by have := HM.out; omega) _).mono ?_
  rintro e w1 ⟨⟨A1, c1, rfl, _, r1⟩, hb1⟩
  have HB1 := Lib.hid hb1
  have HU1 := up_big m u A1 c1 w1 (by have := len53 m HM.out; omega) r1
  rw [HX.out] at HU1
  replace HU1 := Lib.hid HU1
  clear r1 hb1
  go_wp2_with fail
  refine HU1.out.mono ?_
  rintro e w2 ⟨⟨A2, c2, rfl, _, r2⟩, hb2⟩
  have HB2 := Lib.hid (below_then HB1.out hb2)
  have HR2 := Lib.hid r2
  clear r2 hb2
  go_wp2_with fail
  refine (of_big n (by have := HN.out; omega) _).mono ?_
  rintro e w3 ⟨⟨A3, c3, rfl, _, r3⟩, hb3⟩
  have HB3 := Lib.hid (below_then HB2.out hb3)
  have HR3 := Lib.hid (HR2.out.after (Nat.le_refl _) hb3)
  have HU3 := up_big n v A3 c3 w3 (by have := len53 n HN.out; omega) r3
  rw [HY.out] at HU3
  replace HU3 := Lib.hid HU3
  clear r3 hb3
  go_wp2_with fail
  refine HU3.out.mono ?_
  rintro e w4 ⟨⟨A4, c4, rfl, _, r4⟩, hb4⟩
  have HB4 := Lib.hid (below_then HB3.out hb4)
  have HRX := Lib.hid (HR3.out.after (Nat.le_refl _) hb4)
  have HRY := Lib.hid r4
  clear r4 hb4
  have hz := HZE.out
  have HZ := HZE
  have HSU := Lib.hid (sum_any x y A2 A4 c2 c4 w4 (by have := HLX.out; omega) (by have := HLY.out; omega) HRX.out HRY.out)
  clear hz
  go_wp2_with (first | (go_at_call 67; refine Calls.mono (nn_at _ _ _ (by assumption)) ?_; rintro e wx ⟨rfl, rfl⟩) | (go_at_call 69; refine Calls.mono (ii_at _ _ _ (by assumption)) ?_; rintro e wx ⟨rfl, rfl⟩) | (go_at_call 73; refine Calls.mono (zz_at _ _ _ (by assumption)) ?_; rintro e wx ⟨rfl, rfl⟩) | (go_at_call 70; refine Calls.mono (gg_at _ _ _ (by assumption)) ?_; rintro e wx ⟨rfl, rfl⟩) | (go_at_call 68; refine Calls.mono (spl_at _ _ _ _ (by assumption)) ?_; rintro e wx ⟨rfl, rfl⟩))
  refine HSU.out.mono ?_
  rintro e w5 ⟨⟨A5, c5, rfl, _, r5⟩, hb5⟩
  have HB5 := Lib.hid (below_then HB4.out hb5)
  have HR5 := Lib.hid r5
  clear r5 hb5
  have HLS := Lib.hid (show (dg16 (x + y)).length ≤ 133 by exact len_sum x y 132 HLX.out HLY.out)
  have HSN := Lib.hid (show (x + y) ≠ 0 by have := HZ.out; omega)
  go_wp2_with fail
  refine (of_one _).mono ?_
  rintro e w6 ⟨⟨A6, c6, rfl, _, r6⟩, hb6⟩
  have HB6 := Lib.hid (below_then HB5.out hb6)
  obtain ⟨Q, hQ⟩ : ∃ Q, 1 * 2 ^ (-low).toNat = Q := ⟨_, rfl⟩
  obtain ⟨PP, hP⟩ : ∃ PP, (x + y) * 2 ^ low.toNat = PP := ⟨_, rfl⟩
  have HS6 := scaled_any (x + y) 1 low A5 A6 c5 c6 w6 (by have := HLS.out; omega) (by have := len_one; omega) (by omega) (by omega) (HR5.out.after (Nat.le_refl _) hb6) r6
  rw [hQ, hP] at HS6
  replace HS6 := Lib.hid HS6
  have HNR := Lib.hid (show rd (PP * 2 ^ k1074) Q = nr (x + y) low by rw [← hP, ← hQ]; exact nr_sc _ _)
  have HP0 := Lib.hid (show PP ≠ 0 by rw [← hP]; exact Nat.mul_ne_zero HSN.out (Nat.pos_iff_ne_zero.1 (Nat.two_pow_pos _)))
  have HQ0 := Lib.hid (show Q ≠ 0 by rw [← hQ]; exact Nat.mul_ne_zero (by decide) (Nat.pos_iff_ne_zero.1 (Nat.two_pow_pos _)))
  have HPL := Lib.hid (show (dg16 PP).length ≤ 250 by rw [← hP]; have := len_up (x + y) low.toNat 133 HLS.out; omega)
  have HQL := Lib.hid (show (dg16 Q).length ≤ 250 by rw [← hQ]; have := len_up 1 (-low).toNat 1 len_one; omega)
  clear hQ hP
  clear r6 hb6
  go_wp2_with fail
  refine HS6.out.mono ?_
  rintro e w7 ⟨⟨A7, c7, B7, d7, rfl, r7, s7⟩, hb7⟩
  have HB7 := Lib.hid (below_then HB6.out hb7)
  have HRO := round_any true PP Q A7 B7 c7 d7 w7 HP0.out HQ0.out HPL.out HQL.out r7 s7
  rw [HNR.out] at HRO
  replace HRO := Lib.hid HRO
  clear r7 s7 hb7
  go_wp2_with (first | (go_at_call 67; refine Calls.mono (nn_at _ _ _ (by assumption)) ?_; rintro e wx ⟨rfl, rfl⟩) | (go_at_call 69; refine Calls.mono (ii_at _ _ _ (by assumption)) ?_; rintro e wx ⟨rfl, rfl⟩) | (go_at_call 73; refine Calls.mono (zz_at _ _ _ (by assumption)) ?_; rintro e wx ⟨rfl, rfl⟩) | (go_at_call 70; refine Calls.mono (gg_at _ _ _ (by assumption)) ?_; rintro e wx ⟨rfl, rfl⟩) | (go_at_call 68; refine Calls.mono (spl_at _ _ _ _ (by assumption)) ?_; rintro e wx ⟨rfl, rfl⟩))
  refine HRO.out.mono ?_
  rintro e w8 ⟨rfl, hb8⟩
  have HB8 := Lib.hid (below_then HB7.out hb8)
  clear hb8
  go_wp2_with fail
  go_ret
  exact ⟨rfl, HB8.out⟩
end Go.Proofs.YtoonneminimbfaaGreatDoor
