/- emendref01.FAdd, case by case. -/
import Derived.Test.YtoonneminimbfaaGreatDoorParts
namespace Go.Proofs.YtoonneminimbfaaGreatDoor
open Go.RowKit
set_option linter.unusedVariables false
set_option linter.unusedSimpArgs false

set_option maxRecDepth 100000 in
set_option maxHeartbeats 1600000 in
theorem fadd_ef (a b m n u v x y : Nat) (i j low : Int) (w : World) (hNa : NN a false) (hNb : NN b false) (hIa : II a false) (hIb : II b false) (hZa : ZZ a false) (hZb : ZZ b false) (hGa : GG a false) (hGb : GG b true) (hsa : SPL a m i) (hsb : SPL b n j) (hm : m < 9007199254740992) (hn : n < 9007199254740992)
    (hi0 : -1074 ≤ i) (hi1 : i ≤ 972) (hj0 : -1074 ≤ j) (hj1 : j ≤ 972) (hlow : min i j = low) (hu : i - low = (u : Int)) (hv : j - low = (v : Int)) (hx : m * 2 ^ u = x) (hy : n * 2 ^ v = y) (hz : x = y) :
    Calls Tryz.prog 38 #[.int .u64 a, .int .u64 b] w fun e w' => e = .returned (.int .u64 0) ∧ Below w.heap.size w w' := by
  have hl0 : -1074 ≤ low := by omega
  have hl1 : low ≤ 972 := by omega
  have hu2 : u ≤ 2046 := by omega
  have hv2 : v ≤ 2046 := by omega
  have hlx : (dg16 x).length ≤ 132 := by have := len_up m u 4 (len53 m hm); rw [hx] at this; omega
  have hly : (dg16 y).length ≤ 132 := by have := len_up n v 4 (len53 n hn); rw [hy] at this; omega
  have HLX := Lib.hid hlx
  have HLY := Lib.hid hly
  have HX := Lib.hid hx
  have HY := Lib.hid hy
  have HM := Lib.hid hm
  have HN := Lib.hid hn
  have HZE := Lib.hid hz
  clear hz hx hy hlx hly hm hn
  go_enter Tryz.func38, Tryz.ntmps38
  go_wp2_with (first | (go_at_call 67; refine Calls.mono (nn_at _ _ _ (by assumption)) ?_; rintro e wx ⟨rfl, rfl⟩) | (go_at_call 69; refine Calls.mono (ii_at _ _ _ (by assumption)) ?_; rintro e wx ⟨rfl, rfl⟩) | (go_at_call 73; refine Calls.mono (zz_at _ _ _ (by assumption)) ?_; rintro e wx ⟨rfl, rfl⟩) | (go_at_call 70; refine Calls.mono (gg_at _ _ _ (by assumption)) ?_; rintro e wx ⟨rfl, rfl⟩) | (go_at_call 68; refine Calls.mono (spl_at _ _ _ _ (by assumption)) ?_; rintro e wx ⟨rfl, rfl⟩))
  refine (of_big m (by have := HM.out; omega) _).mono ?_
  rintro e w1 ⟨⟨A1, c1, rfl, _, r1⟩, hb1⟩
  have HB1 := Lib.hid hb1
  have HU1 := up_big m u A1 c1 w1 (by have := len53 m HM.out; omega) r1
  rw [HX.out] at HU1
  replace HU1 := Lib.hid HU1
  clear r1 hb1
  go_wp2_with fail
  refine HU1.out.mono ?_
  rintro e w2 ⟨⟨A2, c2, rfl, _, r2⟩, hb2⟩
  have HB2 := Lib.hid (below_then HB1.out hb2)
  have HR2 := Lib.hid r2
  clear r2 hb2
  go_wp2_with fail
  refine (of_big n (by have := HN.out; omega) _).mono ?_
  rintro e w3 ⟨⟨A3, c3, rfl, _, r3⟩, hb3⟩
  have HB3 := Lib.hid (below_then HB2.out hb3)
  have HR3 := Lib.hid (HR2.out.after (Nat.le_refl _) hb3)
  have HU3 := up_big n v A3 c3 w3 (by have := len53 n HN.out; omega) r3
  rw [HY.out] at HU3
  replace HU3 := Lib.hid HU3
  clear r3 hb3
  go_wp2_with fail
  refine HU3.out.mono ?_
  rintro e w4 ⟨⟨A4, c4, rfl, _, r4⟩, hb4⟩
  have HB4 := Lib.hid (below_then HB3.out hb4)
  have HRX := Lib.hid (HR3.out.after (Nat.le_refl _) hb4)
  have HRY := Lib.hid r4
  clear r4 hb4
  have HC := cmp_any x y A2 A4 c2 c4 w4 (by have := HLX.out; omega) (by have := HLY.out; omega) HRX.out HRY.out
  rw [show cmpI x y = 0 by rw [HZE.out]; unfold cmpI; rw [if_neg (Nat.lt_irrefl _), if_pos rfl]] at HC
  replace HC := Lib.hid HC
  go_wp2_with (first | (go_at_call 67; refine Calls.mono (nn_at _ _ _ (by assumption)) ?_; rintro e wx ⟨rfl, rfl⟩) | (go_at_call 69; refine Calls.mono (ii_at _ _ _ (by assumption)) ?_; rintro e wx ⟨rfl, rfl⟩) | (go_at_call 73; refine Calls.mono (zz_at _ _ _ (by assumption)) ?_; rintro e wx ⟨rfl, rfl⟩) | (go_at_call 70; refine Calls.mono (gg_at _ _ _ (by assumption)) ?_; rintro e wx ⟨rfl, rfl⟩) | (go_at_call 68; refine Calls.mono (spl_at _ _ _ _ (by assumption)) ?_; rintro e wx ⟨rfl, rfl⟩))
  refine HC.out.mono ?_
  rintro e w5 ⟨rfl, hb5⟩
  have HB5 := Lib.hid (below_then HB4.out hb5)
  clear hb5
  go_wp2_with fail
  go_ret
  exact ⟨rfl, HB5.out⟩
set_option maxRecDepth 100000 in
set_option maxHeartbeats 1600000 in
theorem fadd_et (a b m n u v x y : Nat) (i j low : Int) (w : World) (hNa : NN a false) (hNb : NN b false) (hIa : II a false) (hIb : II b false) (hZa : ZZ a false) (hZb : ZZ b false) (hGa : GG a true) (hGb : GG b false) (hsa : SPL a m i) (hsb : SPL b n j) (hm : m < 9007199254740992) (hn : n < 9007199254740992)
    (hi0 : -1074 ≤ i) (hi1 : i ≤ 972) (hj0 : -1074 ≤ j) (hj1 : j ≤ 972) (hlow : min i j = low) (hu : i - low = (u : Int)) (hv : j - low = (v : Int)) (hx : m * 2 ^ u = x) (hy : n * 2 ^ v = y) (hz : x = y) :
    Calls Tryz.prog 38 #[.int .u64 a, .int .u64 b] w fun e w' => e = .returned (.int .u64 0) ∧ Below w.heap.size w w' := by
  have hl0 : -1074 ≤ low := by omega
  have hl1 : low ≤ 972 := by omega
  have hu2 : u ≤ 2046 := by omega
  have hv2 : v ≤ 2046 := by omega
  have hlx : (dg16 x).length ≤ 132 := by have := len_up m u 4 (len53 m hm); rw [hx] at this; omega
  have hly : (dg16 y).length ≤ 132 := by have := len_up n v 4 (len53 n hn); rw [hy] at this; omega
  have HLX := Lib.hid hlx
  have HLY := Lib.hid hly
  have HX := Lib.hid hx
  have HY := Lib.hid hy
  have HM := Lib.hid hm
  have HN := Lib.hid hn
  have HZE := Lib.hid hz
  clear hz hx hy hlx hly hm hn
  go_enter Tryz.func38, Tryz.ntmps38
  go_wp2_with (first | (go_at_call 67; refine Calls.mono (nn_at _ _ _ (by assumption)) ?_; rintro e wx ⟨rfl, rfl⟩) | (go_at_call 69; refine Calls.mono (ii_at _ _ _ (by assumption)) ?_; rintro e wx ⟨rfl, rfl⟩) | (go_at_call 73; refine Calls.mono (zz_at _ _ _ (by assumption)) ?_; rintro e wx ⟨rfl, rfl⟩) | (go_at_call 70; refine Calls.mono (gg_at _ _ _ (by assumption)) ?_; rintro e wx ⟨rfl, rfl⟩) | (go_at_call 68; refine Calls.mono (spl_at _ _ _ _ (by assumption)) ?_; rintro e wx ⟨rfl, rfl⟩))
  refine (of_big m (by have := HM.out; omega) _).mono ?_
  rintro e w1 ⟨⟨A1, c1, rfl, _, r1⟩, hb1⟩
  have HB1 := Lib.hid hb1
  have HU1 := up_big m u A1 c1 w1 (by have := len53 m HM.out; omega) r1
  rw [HX.out] at HU1
  replace HU1 := Lib.hid HU1
  clear r1 hb1
  go_wp2_with fail
  refine HU1.out.mono ?_
  rintro e w2 ⟨⟨A2, c2, rfl, _, r2⟩, hb2⟩
  have HB2 := Lib.hid (below_then HB1.out hb2)
  have HR2 := Lib.hid r2
  clear r2 hb2
  go_wp2_with fail
  refine (of_big n (by have := HN.out; omega) _).mono ?_
  rintro e w3 ⟨⟨A3, c3, rfl, _, r3⟩, hb3⟩
  have HB3 := Lib.hid (below_then HB2.out hb3)
  have HR3 := Lib.hid (HR2.out.after (Nat.le_refl _) hb3)
  have HU3 := up_big n v A3 c3 w3 (by have := len53 n HN.out; omega) r3
  rw [HY.out] at HU3
  replace HU3 := Lib.hid HU3
  clear r3 hb3
  go_wp2_with fail
  refine HU3.out.mono ?_
  rintro e w4 ⟨⟨A4, c4, rfl, _, r4⟩, hb4⟩
  have HB4 := Lib.hid (below_then HB3.out hb4)
  have HRX := Lib.hid (HR3.out.after (Nat.le_refl _) hb4)
  have HRY := Lib.hid r4
  clear r4 hb4
  have HC := cmp_any x y A2 A4 c2 c4 w4 (by have := HLX.out; omega) (by have := HLY.out; omega) HRX.out HRY.out
  rw [show cmpI x y = 0 by rw [HZE.out]; unfold cmpI; rw [if_neg (Nat.lt_irrefl _), if_pos rfl]] at HC
  replace HC := Lib.hid HC
  go_wp2_with (first | (go_at_call 67; refine Calls.mono (nn_at _ _ _ (by assumption)) ?_; rintro e wx ⟨rfl, rfl⟩) | (go_at_call 69; refine Calls.mono (ii_at _ _ _ (by assumption)) ?_; rintro e wx ⟨rfl, rfl⟩) | (go_at_call 73; refine Calls.mono (zz_at _ _ _ (by assumption)) ?_; rintro e wx ⟨rfl, rfl⟩) | (go_at_call 70; refine Calls.mono (gg_at _ _ _ (by assumption)) ?_; rintro e wx ⟨rfl, rfl⟩) | (go_at_call 68; refine Calls.mono (spl_at _ _ _ _ (by assumption)) ?_; rintro e wx ⟨rfl, rfl⟩))
  refine HC.out.mono ?_
  rintro e w5 ⟨rfl, hb5⟩
  have HB5 := Lib.hid (below_then HB4.out hb5)
  clear hb5
  go_wp2_with fail
  go_ret
  exact ⟨rfl, HB5.out⟩
end Go.Proofs.YtoonneminimbfaaGreatDoor
