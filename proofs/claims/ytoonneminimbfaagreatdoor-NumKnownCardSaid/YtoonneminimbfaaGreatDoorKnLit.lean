/- The float literals that NumKnown asks for, read. -/
import Derived.Test.YtoonneminimbfaaGreatDoorAtof
import Derived.Test.YtoonneminimbfaaGreatDoorReadN0
import Derived.Test.YtoonneminimbfaaGreatDoorReadN1
import Derived.Test.YtoonneminimbfaaGreatDoorReadN2
import Derived.Test.YtoonneminimbfaaGreatDoorReadN3
import Derived.Test.YtoonneminimbfaaGreatDoorReadZ0
import Derived.Test.YtoonneminimbfaaGreatDoorReadZ1
import Derived.Test.YtoonneminimbfaaGreatDoorReadZ2
import Derived.Test.YtoonneminimbfaaGreatDoorReadZ3
namespace Go.Proofs.YtoonneminimbfaaGreatDoor
open Go.RowKit
set_option linter.unusedVariables false
set_option linter.unusedSimpArgs false

def scanB (L : List UInt8) (P : Nat) : Bool :=
  decide (3 ≤ L.length) && decide (L.length ≤ 60) && decide (P ≤ L.length) && decide (2 ≤ P) && (List.range P).all (fun k => match L[k]? with | some c => isDig c || (c == 46 && !(rsAt L k).dot) | none => true) &&
  (match L[0]? with | some c => isDig c | none => false) && (L[0]? != some 48 || L[1]? == some 46) && (rsAt L P).dot && (rsAt L P).dig
theorem scan_of {L : List UInt8} {P : Nat} (h : scanB L P = true) : Scan L P := by
  unfold scanB at h
  simp only [Bool.and_eq_true, decide_eq_true_eq] at h
  obtain ⟨⟨⟨⟨⟨⟨⟨⟨h1, h2⟩, h3⟩, h4⟩, h5⟩, h6⟩, h7⟩, h8⟩, h9⟩ := h
  refine ⟨h1, h2, h3, h4, fun k c hk hc => ?_, ?_, fun h => ?_, h8, h9⟩
  · have := List.all_eq_true.1 h5 k (List.mem_range.2 hk)
    simp only [hc] at this
    simpa using this
  · cases hc : L[0]? with
    | none => rw [hc] at h6; simp at h6
    | some c => rw [hc] at h6; exact ⟨c, rfl, h6⟩
  · rw [h] at h7
    simpa using h7
theorem digs_from {L : List UInt8} {Q : Nat} (h : (L.drop Q).all isDig = true) : ∀ k c, Q ≤ k → L[k]? = some c → isDig c = true := fun k c hk hc => by
  refine List.all_eq_true.1 h c ?_
  have : (L.drop Q)[k - Q]? = some c := by rw [List.getElem?_drop, show Q + (k - Q) = k by omega]; exact hc
  exact List.mem_of_getElem? this
theorem ex_big (d : Nat) (p : Int) (hd : 4503599627370496 ≤ d) (hd2 : d < 18446744073709551616) : EX d p 0 false := by
  intro w hG
  have h3 := hG.glob.knows.width
  have hq : ((d : Int) / 4503599627370496 != 0) = true := by simp; omega
  clear hG
  go_enter Tryz.func145, Tryz.ntmps145
  go_wp2_with fail
  go_ret2
  exact ⟨rfl, Below.refl _ _⟩

set_option maxRecDepth 1000000 in
set_option maxHeartbeats 1600000 in
theorem ex_49 : EX 49 (-325) (floatOfInt .f64 49) false := by
  intro w hG
  have h3 := hG.glob.knows.width
  clear hG
  go_enter Tryz.func145, Tryz.ntmps145
  go_wp2_with fail
  go_ret2
  exact ⟨rfl, Below.refl _ _⟩
set_option maxRecDepth 1000000 in
set_option maxHeartbeats 1600000 in
theorem ex_1_1 : EX 1 (-1) 4591870180066957722 true := by
  intro w hG
  obtain ⟨pb, po, c, h1, h2⟩ := hG.powf
  have h4 := h2 1 4621819117588971520 (by rfl)
  have h3 := hG.glob.knows.width
  have hq : ∀ w : World, (binOp .quo 27 (.float .f64 (floatOfInt .f64 1)) (.float .f64 4621819117588971520)).run Tryz.prog w = .ok (.float .f64 4591870180066957722) w := fun w => run_float_arith w .quo 27 .f64 _ _ _ (by kernel_rfl)
  clear hG h2
  go_enter Tryz.func145, Tryz.ntmps145
  go_wp2_with fail
  go_ret2
  exact ⟨rfl, ⟨rfl, rfl, rfl, Nat.le_refl _, fun _ _ => rfl⟩⟩
set_option maxRecDepth 1000000 in
set_option maxHeartbeats 1600000 in
theorem ex_10_6 : EX 10 (-6) 4532020583610935537 true := by
  intro w hG
  obtain ⟨pb, po, c, h1, h2⟩ := hG.powf
  have h4 := h2 6 4696837146684686336 (by rfl)
  have h3 := hG.glob.knows.width
  have hq : ∀ w : World, (binOp .quo 27 (.float .f64 (floatOfInt .f64 10)) (.float .f64 4696837146684686336)).run Tryz.prog w = .ok (.float .f64 4532020583610935537) w := fun w => run_float_arith w .quo 27 .f64 _ _ _ (by kernel_rfl)
  clear hG h2
  go_enter Tryz.func145, Tryz.ntmps145
  go_wp2_with fail
  go_ret2
  exact ⟨rfl, ⟨rfl, rfl, rfl, Nat.le_refl _, fun _ _ => rfl⟩⟩
set_option maxRecDepth 1000000 in
set_option maxHeartbeats 1600000 in
theorem ex_1_5 : EX 1 (-5) 4532020583610935537 true := by
  intro w hG
  obtain ⟨pb, po, c, h1, h2⟩ := hG.powf
  have h4 := h2 5 4681608360884174848 (by rfl)
  have h3 := hG.glob.knows.width
  have hq : ∀ w : World, (binOp .quo 27 (.float .f64 (floatOfInt .f64 1)) (.float .f64 4681608360884174848)).run Tryz.prog w = .ok (.float .f64 4532020583610935537) w := fun w => run_float_arith w .quo 27 .f64 _ _ _ (by kernel_rfl)
  clear hG h2
  go_enter Tryz.func145, Tryz.ntmps145
  go_wp2_with fail
  go_ret2
  exact ⟨rfl, ⟨rfl, rfl, rfl, Nat.le_refl _, fun _ _ => rfl⟩⟩
theorem rd_g0 : RDs ⟨#[49, 46, 55, 57, 55, 54, 57, 51, 49, 51, 52, 56, 54, 50, 51, 49, 53, 57, 101, 51, 48, 56]⟩ 17976931348623159 292 := by
  refine ⟨⟨by decide, by decide, by decide⟩, fun w => ?_⟩
  have h := read_n1 ⟨#[49, 46, 55, 57, 55, 54, 57, 51, 49, 51, 52, 56, 54, 50, 51, 49, 53, 57, 101, 51, 48, 56]⟩ 18 w (scan_of (by decide +kernel)) (by decide) (by decide) (by decide) (by decide) (digs_from (by decide))
  rw [show (rsAt (⟨#[49, 46, 55, 57, 55, 54, 57, 51, 49, 51, 52, 56, 54, 50, 51, 49, 53, 57, 101, 51, 48, 56]⟩ : ByteArray).data.toList 18).mant = 17976931348623159 by decide +kernel, show expOf (rsAt (⟨#[49, 46, 55, 57, 55, 54, 57, 51, 49, 51, 52, 56, 54, 50, 51, 49, 53, 57, 101, 51, 48, 56]⟩ : ByteArray).data.toList 18) (valD 0 ((⟨#[49, 46, 55, 57, 55, 54, 57, 51, 49, 51, 52, 56, 54, 50, 51, 49, 53, 57, 101, 51, 48, 56]⟩ : ByteArray).data.toList.drop 19) : Nat) = 292 by decide +kernel, show (rsAt (⟨#[49, 46, 55, 57, 55, 54, 57, 51, 49, 51, 52, 56, 54, 50, 51, 49, 53, 57, 101, 51, 48, 56]⟩ : ByteArray).data.toList 18).trunc = false by decide +kernel] at h
  exact h
theorem pf_1 : PF 17976931348623159 292 9218868437227405312 true := by
  intro w hG
  obtain ⟨t0, t1⟩ := hG.tab 640 (9242595204427927430, 9691516171490459212) (by decide +kernel)
  exact pf_norm 17976931348623159 54 10 9242595204427927430 9691516171490459212 640 18408377700990114816 36028797018963967 18014398509481983 1 18014398509481983 4503599627370496 9218868437227405312 true 292 (-971) 8 970 (-972) true w (by decide) (by decide +kernel) (by decide) (by decide +kernel) (by decide) (by decide) (by decide) (by decide) (by decide) (by decide) (by decide) (by decide) (by decide) (by decide) (by decide +kernel) (by decide) (by decide) (by decide) (by decide) (by decide) (by decide +kernel) (by decide) (by decide +kernel) (by decide +kernel) (by decide +kernel) (by decide +kernel) (by decide +kernel) (by decide) (by decide) (by decide +kernel) t0 t1
theorem at_g0 : AT ⟨#[49, 46, 55, 57, 55, 54, 57, 51, 49, 51, 52, 56, 54, 50, 51, 49, 53, 57, 101, 51, 48, 56]⟩ 9218868437227405312 true := atof_pf _ _ _ _ _ _ rd_g0 (by decide) (by decide) (by decide) (ex_big _ _ (by decide) (by decide)) pf_1
theorem rd_g1 : RDs ⟨#[48, 46, 49]⟩ 1 (-1) := by
  refine ⟨⟨by decide, by decide, by decide⟩, fun w => ?_⟩
  have h := read_z0 ⟨#[48, 46, 49]⟩ 3 w (scan_of (by decide +kernel)) (by decide) (by decide)
  rw [show (rsAt (⟨#[48, 46, 49]⟩ : ByteArray).data.toList 3).mant = 1 by decide +kernel, show expOf (rsAt (⟨#[48, 46, 49]⟩ : ByteArray).data.toList 3) 0 = (-1) by decide +kernel, show (rsAt (⟨#[48, 46, 49]⟩ : ByteArray).data.toList 3).trunc = false by decide +kernel] at h
  exact h
theorem at_g1 : AT ⟨#[48, 46, 49]⟩ 4591870180066957722 false := atof_exact _ _ _ _ rd_g1 (by decide) (by decide) (by decide) ex_1_1
theorem rd_g2 : RDs ⟨#[57, 48, 48, 55, 49, 57, 57, 50, 53, 52, 55, 52, 48, 57, 57, 51, 46, 48]⟩ 90071992547409930 (-1) := by
  refine ⟨⟨by decide, by decide, by decide⟩, fun w => ?_⟩
  have h := read_n0 ⟨#[57, 48, 48, 55, 49, 57, 57, 50, 53, 52, 55, 52, 48, 57, 57, 51, 46, 48]⟩ 18 w (scan_of (by decide +kernel)) (by decide) (by decide)
  rw [show (rsAt (⟨#[57, 48, 48, 55, 49, 57, 57, 50, 53, 52, 55, 52, 48, 57, 57, 51, 46, 48]⟩ : ByteArray).data.toList 18).mant = 90071992547409930 by decide +kernel, show expOf (rsAt (⟨#[57, 48, 48, 55, 49, 57, 57, 50, 53, 52, 55, 52, 48, 57, 57, 51, 46, 48]⟩ : ByteArray).data.toList 18) 0 = (-1) by decide +kernel, show (rsAt (⟨#[57, 48, 48, 55, 49, 57, 57, 50, 53, 52, 55, 52, 48, 57, 57, 51, 46, 48]⟩ : ByteArray).data.toList 18).trunc = false by decide +kernel] at h
  exact h
theorem pf_2 : PF 90071992547409930 (-1) 4845873199050653696 false := by
  intro w hG
  obtain ⟨t0, t1⟩ := hG.tab 347 (14757395258967641293, 3689348814741910323) (by decide +kernel)
  exact pf_norm 90071992547409930 57 7 14757395258967641293 3689348814741910323 347 11529215046068471040 36028797018963972 18014398509481986 0 18014398509481986 4503599627370496 4845873199050653696 true (-1) 0 8 (-4) (-1) false w (by decide) (by decide +kernel) (by decide) (by decide +kernel) (by decide) (by decide) (by decide) (by decide) (by decide) (by decide) (by decide) (by decide) (by decide) (by decide) (by decide +kernel) (by decide) (by decide) (by decide) (by decide) (by decide) (by decide +kernel) (by decide) (by decide +kernel) (by decide +kernel) (by decide +kernel) (by decide +kernel) (by decide +kernel) (by decide) (by decide) (by decide +kernel) t0 t1
theorem at_g2 : AT ⟨#[57, 48, 48, 55, 49, 57, 57, 50, 53, 52, 55, 52, 48, 57, 57, 51, 46, 48]⟩ 4845873199050653696 false := atof_pf _ _ _ _ _ _ rd_g2 (by decide) (by decide) (by decide) (ex_big _ _ (by decide) (by decide)) pf_2
theorem rd_g3 : RDs ⟨#[52, 46, 57, 101, 45, 51, 50, 52]⟩ 49 (-325) := by
  refine ⟨⟨by decide, by decide, by decide⟩, fun w => ?_⟩
  have h := read_n3 ⟨#[52, 46, 57, 101, 45, 51, 50, 52]⟩ 3 w (scan_of (by decide +kernel)) (by decide) (by decide) (by decide) (by decide) (by decide) (digs_from (by decide))
  rw [show (rsAt (⟨#[52, 46, 57, 101, 45, 51, 50, 52]⟩ : ByteArray).data.toList 3).mant = 49 by decide +kernel, show expOf (rsAt (⟨#[52, 46, 57, 101, 45, 51, 50, 52]⟩ : ByteArray).data.toList 3) (-(valD 0 ((⟨#[52, 46, 57, 101, 45, 51, 50, 52]⟩ : ByteArray).data.toList.drop 5) : Nat)) = (-325) by decide +kernel, show (rsAt (⟨#[52, 46, 57, 101, 45, 51, 50, 52]⟩ : ByteArray).data.toList 3).trunc = false by decide +kernel] at h
  exact h
theorem pf_3 : PF 49 (-325) 1 false := by
  intro w hG
  obtain ⟨t0, t1⟩ := hG.tab 23 (11947720213446693257, 13718347381886919122) (by decide +kernel)
  exact pf_norm 49 6 58 11947720213446693257 13718347381886919122 23 14123288431433875456 3 3 1 3 1 1 false (-325) 1074 61 (-1080) 1074 false w (by decide) (by decide +kernel) (by decide) (by decide +kernel) (by decide) (by decide) (by decide) (by decide) (by decide) (by decide) (by decide) (by decide) (by decide) (by decide) (by decide +kernel) (by decide) (by decide) (by decide) (by decide) (by decide) (by decide +kernel) (by decide) (by decide +kernel) (by decide +kernel) (by decide +kernel) (by decide +kernel) (by decide +kernel) (by decide) (by decide) (by decide +kernel) t0 t1
theorem at_g3 : AT ⟨#[52, 46, 57, 101, 45, 51, 50, 52]⟩ 1 false := atof_pf _ _ _ _ _ _ rd_g3 (by decide) (by decide) (by decide) (ex_49) pf_3
theorem rd_g4 : RDs ⟨#[49, 46, 55, 57, 55, 54, 57, 51, 49, 51, 52, 56, 54, 50, 51, 49, 53, 55, 101, 51, 48, 56]⟩ 17976931348623157 292 := by
  refine ⟨⟨by decide, by decide, by decide⟩, fun w => ?_⟩
  have h := read_n1 ⟨#[49, 46, 55, 57, 55, 54, 57, 51, 49, 51, 52, 56, 54, 50, 51, 49, 53, 55, 101, 51, 48, 56]⟩ 18 w (scan_of (by decide +kernel)) (by decide) (by decide) (by decide) (by decide) (digs_from (by decide))
  rw [show (rsAt (⟨#[49, 46, 55, 57, 55, 54, 57, 51, 49, 51, 52, 56, 54, 50, 51, 49, 53, 55, 101, 51, 48, 56]⟩ : ByteArray).data.toList 18).mant = 17976931348623157 by decide +kernel, show expOf (rsAt (⟨#[49, 46, 55, 57, 55, 54, 57, 51, 49, 51, 52, 56, 54, 50, 51, 49, 53, 55, 101, 51, 48, 56]⟩ : ByteArray).data.toList 18) (valD 0 ((⟨#[49, 46, 55, 57, 55, 54, 57, 51, 49, 51, 52, 56, 54, 50, 51, 49, 53, 55, 101, 51, 48, 56]⟩ : ByteArray).data.toList.drop 19) : Nat) = 292 by decide +kernel, show (rsAt (⟨#[49, 46, 55, 57, 55, 54, 57, 51, 49, 51, 52, 56, 54, 50, 51, 49, 53, 55, 101, 51, 48, 56]⟩ : ByteArray).data.toList 18).trunc = false by decide +kernel] at h
  exact h
theorem pf_4 : PF 17976931348623157 292 9218868437227405311 false := by
  intro w hG
  obtain ⟨t0, t1⟩ := hG.tab 640 (9242595204427927430, 9691516171490459212) (by decide +kernel)
  exact pf_norm 17976931348623157 54 10 9242595204427927430 9691516171490459212 640 18408377700990112768 36028797018963963 36028797018963963 1 36028797018963963 9007199254740991 9218868437227405311 false 292 (-971) 8 970 (-971) false w (by decide) (by decide +kernel) (by decide) (by decide +kernel) (by decide) (by decide) (by decide) (by decide) (by decide) (by decide) (by decide) (by decide) (by decide) (by decide) (by decide +kernel) (by decide) (by decide) (by decide) (by decide) (by decide) (by decide +kernel) (by decide) (by decide +kernel) (by decide +kernel) (by decide +kernel) (by decide +kernel) (by decide +kernel) (by decide) (by decide) (by decide +kernel) t0 t1
theorem at_g4 : AT ⟨#[49, 46, 55, 57, 55, 54, 57, 51, 49, 51, 52, 56, 54, 50, 51, 49, 53, 55, 101, 51, 48, 56]⟩ 9218868437227405311 false := atof_pf _ _ _ _ _ _ rd_g4 (by decide) (by decide) (by decide) (ex_big _ _ (by decide) (by decide)) pf_4
theorem rd_g5 : RDs ⟨#[50, 46, 52, 55, 48, 51, 50, 56, 50, 50, 57, 50, 48, 54, 50, 51, 50, 55, 101, 45, 51, 50, 52]⟩ 24703282292062327 (-340) := by
  refine ⟨⟨by decide, by decide, by decide⟩, fun w => ?_⟩
  have h := read_n3 ⟨#[50, 46, 52, 55, 48, 51, 50, 56, 50, 50, 57, 50, 48, 54, 50, 51, 50, 55, 101, 45, 51, 50, 52]⟩ 18 w (scan_of (by decide +kernel)) (by decide) (by decide) (by decide) (by decide) (by decide) (digs_from (by decide))
  rw [show (rsAt (⟨#[50, 46, 52, 55, 48, 51, 50, 56, 50, 50, 57, 50, 48, 54, 50, 51, 50, 55, 101, 45, 51, 50, 52]⟩ : ByteArray).data.toList 18).mant = 24703282292062327 by decide +kernel, show expOf (rsAt (⟨#[50, 46, 52, 55, 48, 51, 50, 56, 50, 50, 57, 50, 48, 54, 50, 51, 50, 55, 101, 45, 51, 50, 52]⟩ : ByteArray).data.toList 18) (-(valD 0 ((⟨#[50, 46, 52, 55, 48, 51, 50, 56, 50, 50, 57, 50, 48, 54, 50, 51, 50, 55, 101, 45, 51, 50, 52]⟩ : ByteArray).data.toList.drop 20) : Nat)) = (-340) by decide +kernel, show (rsAt (⟨#[50, 46, 52, 55, 48, 51, 50, 56, 50, 50, 57, 50, 48, 54, 50, 51, 50, 55, 101, 45, 51, 50, 52]⟩ : ByteArray).data.toList 18).trunc = false by decide +kernel] at h
  exact h
theorem pf_5 : PF 24703282292062327 (-340) 0 false := by
  intro w hG
  obtain ⟨t0, t1⟩ := hG.tab 8 (13451937075301367671, 11711121616800975286) (by decide +kernel)
  exact pf_norm 24703282292062327 55 9 13451937075301367671 11711121616800975286 8 12648080533535911424 1 1 1 1 0 0 false (-340) 1074 62 (-1130) 1074 false w (by decide) (by decide +kernel) (by decide) (by decide +kernel) (by decide) (by decide) (by decide) (by decide) (by decide) (by decide) (by decide) (by decide) (by decide) (by decide) (by decide +kernel) (by decide) (by decide) (by decide) (by decide) (by decide) (by decide +kernel) (by decide) (by decide +kernel) (by decide +kernel) (by decide +kernel) (by decide +kernel) (by decide +kernel) (by decide) (by decide) (by decide +kernel) t0 t1
theorem at_g5 : AT ⟨#[50, 46, 52, 55, 48, 51, 50, 56, 50, 50, 57, 50, 48, 54, 50, 51, 50, 55, 101, 45, 51, 50, 52]⟩ 0 false := atof_pf _ _ _ _ _ _ rd_g5 (by decide) (by decide) (by decide) (ex_big _ _ (by decide) (by decide)) pf_5
theorem rd_g6 : RDs ⟨#[50, 46, 52, 55, 48, 51, 50, 56, 50, 50, 57, 50, 48, 54, 50, 51, 50, 56, 101, 45, 51, 50, 52]⟩ 24703282292062328 (-340) := by
  refine ⟨⟨by decide, by decide, by decide⟩, fun w => ?_⟩
  have h := read_n3 ⟨#[50, 46, 52, 55, 48, 51, 50, 56, 50, 50, 57, 50, 48, 54, 50, 51, 50, 56, 101, 45, 51, 50, 52]⟩ 18 w (scan_of (by decide +kernel)) (by decide) (by decide) (by decide) (by decide) (by decide) (digs_from (by decide))
  rw [show (rsAt (⟨#[50, 46, 52, 55, 48, 51, 50, 56, 50, 50, 57, 50, 48, 54, 50, 51, 50, 56, 101, 45, 51, 50, 52]⟩ : ByteArray).data.toList 18).mant = 24703282292062328 by decide +kernel, show expOf (rsAt (⟨#[50, 46, 52, 55, 48, 51, 50, 56, 50, 50, 57, 50, 48, 54, 50, 51, 50, 56, 101, 45, 51, 50, 52]⟩ : ByteArray).data.toList 18) (-(valD 0 ((⟨#[50, 46, 52, 55, 48, 51, 50, 56, 50, 50, 57, 50, 48, 54, 50, 51, 50, 56, 101, 45, 51, 50, 52]⟩ : ByteArray).data.toList.drop 20) : Nat)) = (-340) by decide +kernel, show (rsAt (⟨#[50, 46, 52, 55, 48, 51, 50, 56, 50, 50, 57, 50, 48, 54, 50, 51, 50, 56, 101, 45, 51, 50, 52]⟩ : ByteArray).data.toList 18).trunc = false by decide +kernel] at h
  exact h
theorem pf_6 : PF 24703282292062328 (-340) 1 false := by
  intro w hG
  obtain ⟨t0, t1⟩ := hG.tab 8 (13451937075301367671, 11711121616800975286) (by decide +kernel)
  exact pf_norm 24703282292062328 55 9 13451937075301367671 11711121616800975286 8 12648080533535911936 3 3 1 3 1 1 false (-340) 1074 62 (-1130) 1074 false w (by decide) (by decide +kernel) (by decide) (by decide +kernel) (by decide) (by decide) (by decide) (by decide) (by decide) (by decide) (by decide) (by decide) (by decide) (by decide) (by decide +kernel) (by decide) (by decide) (by decide) (by decide) (by decide) (by decide +kernel) (by decide) (by decide +kernel) (by decide +kernel) (by decide +kernel) (by decide +kernel) (by decide +kernel) (by decide) (by decide) (by decide +kernel) t0 t1
theorem at_g6 : AT ⟨#[50, 46, 52, 55, 48, 51, 50, 56, 50, 50, 57, 50, 48, 54, 50, 51, 50, 56, 101, 45, 51, 50, 52]⟩ 1 false := atof_pf _ _ _ _ _ _ rd_g6 (by decide) (by decide) (by decide) (ex_big _ _ (by decide) (by decide)) pf_6
theorem rd_g7 : RDs ⟨#[48, 46, 48, 101, 57, 57, 57]⟩ 0 0 := by
  refine ⟨⟨by decide, by decide, by decide⟩, fun w => ?_⟩
  have h := read_z1 ⟨#[48, 46, 48, 101, 57, 57, 57]⟩ 3 w (scan_of (by decide +kernel)) (by decide) (by decide) (by decide) (by decide) (digs_from (by decide))
  rw [show (rsAt (⟨#[48, 46, 48, 101, 57, 57, 57]⟩ : ByteArray).data.toList 3).mant = 0 by decide +kernel, show expOf (rsAt (⟨#[48, 46, 48, 101, 57, 57, 57]⟩ : ByteArray).data.toList 3) (valD 0 ((⟨#[48, 46, 48, 101, 57, 57, 57]⟩ : ByteArray).data.toList.drop 4) : Nat) = 0 by decide +kernel, show (rsAt (⟨#[48, 46, 48, 101, 57, 57, 57]⟩ : ByteArray).data.toList 3).trunc = false by decide +kernel] at h
  exact h
theorem at_g7 : AT ⟨#[48, 46, 48, 101, 57, 57, 57]⟩ 0 false := atof_zero _ _ rd_g7
theorem rd_g8 : RDs ⟨#[49, 46, 48, 101, 45, 57, 57, 57]⟩ 10 (-1000) := by
  refine ⟨⟨by decide, by decide, by decide⟩, fun w => ?_⟩
  have h := read_n3 ⟨#[49, 46, 48, 101, 45, 57, 57, 57]⟩ 3 w (scan_of (by decide +kernel)) (by decide) (by decide) (by decide) (by decide) (by decide) (digs_from (by decide))
  rw [show (rsAt (⟨#[49, 46, 48, 101, 45, 57, 57, 57]⟩ : ByteArray).data.toList 3).mant = 10 by decide +kernel, show expOf (rsAt (⟨#[49, 46, 48, 101, 45, 57, 57, 57]⟩ : ByteArray).data.toList 3) (-(valD 0 ((⟨#[49, 46, 48, 101, 45, 57, 57, 57]⟩ : ByteArray).data.toList.drop 5) : Nat)) = (-1000) by decide +kernel, show (rsAt (⟨#[49, 46, 48, 101, 45, 57, 57, 57]⟩ : ByteArray).data.toList 3).trunc = false by decide +kernel] at h
  exact h
theorem at_g8 : AT ⟨#[49, 46, 48, 101, 45, 57, 57, 57]⟩ 0 false := atof_tiny _ _ _ rd_g8 (by decide) (by decide)
theorem rd_g9 : RDs ⟨#[49, 46, 48, 101, 45, 48, 48, 53]⟩ 10 (-6) := by
  refine ⟨⟨by decide, by decide, by decide⟩, fun w => ?_⟩
  have h := read_n3 ⟨#[49, 46, 48, 101, 45, 48, 48, 53]⟩ 3 w (scan_of (by decide +kernel)) (by decide) (by decide) (by decide) (by decide) (by decide) (digs_from (by decide))
  rw [show (rsAt (⟨#[49, 46, 48, 101, 45, 48, 48, 53]⟩ : ByteArray).data.toList 3).mant = 10 by decide +kernel, show expOf (rsAt (⟨#[49, 46, 48, 101, 45, 48, 48, 53]⟩ : ByteArray).data.toList 3) (-(valD 0 ((⟨#[49, 46, 48, 101, 45, 48, 48, 53]⟩ : ByteArray).data.toList.drop 5) : Nat)) = (-6) by decide +kernel, show (rsAt (⟨#[49, 46, 48, 101, 45, 48, 48, 53]⟩ : ByteArray).data.toList 3).trunc = false by decide +kernel] at h
  exact h
theorem at_g9 : AT ⟨#[49, 46, 48, 101, 45, 48, 48, 53]⟩ 4532020583610935537 false := atof_exact _ _ _ _ rd_g9 (by decide) (by decide) (by decide) ex_10_6
theorem rd_g10 : RDs ⟨#[48, 46, 48, 48, 48, 48, 49]⟩ 1 (-5) := by
  refine ⟨⟨by decide, by decide, by decide⟩, fun w => ?_⟩
  have h := read_z0 ⟨#[48, 46, 48, 48, 48, 48, 49]⟩ 7 w (scan_of (by decide +kernel)) (by decide) (by decide)
  rw [show (rsAt (⟨#[48, 46, 48, 48, 48, 48, 49]⟩ : ByteArray).data.toList 7).mant = 1 by decide +kernel, show expOf (rsAt (⟨#[48, 46, 48, 48, 48, 48, 49]⟩ : ByteArray).data.toList 7) 0 = (-5) by decide +kernel, show (rsAt (⟨#[48, 46, 48, 48, 48, 48, 49]⟩ : ByteArray).data.toList 7).trunc = false by decide +kernel] at h
  exact h
theorem at_g10 : AT ⟨#[48, 46, 48, 48, 48, 48, 49]⟩ 4532020583610935537 false := atof_exact _ _ _ _ rd_g10 (by decide) (by decide) (by decide) ex_1_5
end Go.Proofs.YtoonneminimbfaaGreatDoor
