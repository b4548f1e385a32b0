/- num.floating of the texts that NumKnown asks for. -/
import Derived.Test.YtoonneminimbfaaGreatDoorAtof
namespace Go.Proofs.YtoonneminimbfaaGreatDoor
section
open Go.RowKit
set_option linter.unusedVariables false
set_option linter.unusedSimpArgs false

set_option maxRecDepth 1000000 in
set_option maxHeartbeats 1600000 in
theorem fl_b0 (w : World) (h : Glob2 w) : Calls Tryz.prog 54 #[.string ⟨#[49, 46]⟩] w fun e w' => e = .returned (.bool false) ∧ Below w.heap.size w w' := by
  obtain ⟨m, hm⟩ := h.glob.knows.maxlen
  have HC := Lib.hid (Tryz.strings_Cut ⟨#[49, 46]⟩ ⟨#[46]⟩ m w (by decide) hm)
  rw [show Lib.cut (⟨#[49, 46]⟩ : ByteArray).data.toList (⟨#[46]⟩ : ByteArray).data.toList = ([49], [], true) by decide] at HC
  have HN := Lib.hid (fun W => natural_any ⟨#[49]⟩ W (by decide))
  rw [show natV (⟨#[49]⟩ : ByteArray).data.toList = true by decide] at HN
  have HD := Lib.hid (fun W => digits_any ⟨#[]⟩ W (by decide))
  rw [show digN (⟨#[]⟩ : ByteArray).data.toList = 0 by decide] at HD
  clear h
  go_enter Tryz.func54, Tryz.ntmps54
  go_wp2_with fail
  refine HC.out.mono ?_
  rintro e w1 ⟨rfl, n, rfl⟩
  go_wp2_with fail
  refine (HN.out _).mono ?_
  rintro e wx ⟨rfl, hxN⟩
  subst hxN
  go_wp2_with fail
  refine (HD.out _).mono ?_
  rintro e wx ⟨rfl, hxD⟩
  subst hxD
  go_wp2_with fail
  go_ret
  exact ⟨rfl, ⟨rfl, rfl, rfl, Nat.le_refl _, fun _ _ => rfl⟩⟩
set_option maxRecDepth 1000000 in
set_option maxHeartbeats 1600000 in
theorem fl_b1 (w : World) (h : Glob2 w) : Calls Tryz.prog 54 #[.string ⟨#[46, 53]⟩] w fun e w' => e = .returned (.bool false) ∧ Below w.heap.size w w' := by
  obtain ⟨m, hm⟩ := h.glob.knows.maxlen
  have HC := Lib.hid (Tryz.strings_Cut ⟨#[46, 53]⟩ ⟨#[46]⟩ m w (by decide) hm)
  rw [show Lib.cut (⟨#[46, 53]⟩ : ByteArray).data.toList (⟨#[46]⟩ : ByteArray).data.toList = ([], [53], true) by decide] at HC
  have HN := Lib.hid (fun W => natural_any ⟨#[]⟩ W (by decide))
  rw [show natV (⟨#[]⟩ : ByteArray).data.toList = false by decide] at HN
  clear h
  go_enter Tryz.func54, Tryz.ntmps54
  go_wp2_with fail
  refine HC.out.mono ?_
  rintro e w1 ⟨rfl, n, rfl⟩
  go_wp2_with fail
  refine (HN.out _).mono ?_
  rintro e wx ⟨rfl, hxN⟩
  subst hxN
  go_wp2_with fail
  go_ret
  exact ⟨rfl, ⟨rfl, rfl, rfl, Nat.le_refl _, fun _ _ => rfl⟩⟩
set_option maxRecDepth 1000000 in
set_option maxHeartbeats 1600000 in
theorem fl_b2 (w : World) (h : Glob2 w) : Calls Tryz.prog 54 #[.string ⟨#[49, 101, 53]⟩] w fun e w' => e = .returned (.bool false) ∧ Below w.heap.size w w' := by
  obtain ⟨m, hm⟩ := h.glob.knows.maxlen
  have HC := Lib.hid (Tryz.strings_Cut ⟨#[49, 101, 53]⟩ ⟨#[46]⟩ m w (by decide) hm)
  rw [show Lib.cut (⟨#[49, 101, 53]⟩ : ByteArray).data.toList (⟨#[46]⟩ : ByteArray).data.toList = ([49, 101, 53], [], false) by decide] at HC
  clear h
  go_enter Tryz.func54, Tryz.ntmps54
  go_wp2_with fail
  refine HC.out.mono ?_
  rintro e w1 ⟨rfl, n, rfl⟩
  go_wp2_with fail
  go_ret
  exact ⟨rfl, ⟨rfl, rfl, rfl, Nat.le_refl _, fun _ _ => rfl⟩⟩
set_option maxRecDepth 1000000 in
set_option maxHeartbeats 1600000 in
theorem fl_b3 (w : World) (h : Glob2 w) : Calls Tryz.prog 54 #[.string ⟨#[48, 49, 46, 53]⟩] w fun e w' => e = .returned (.bool false) ∧ Below w.heap.size w w' := by
  obtain ⟨m, hm⟩ := h.glob.knows.maxlen
  have HC := Lib.hid (Tryz.strings_Cut ⟨#[48, 49, 46, 53]⟩ ⟨#[46]⟩ m w (by decide) hm)
  rw [show Lib.cut (⟨#[48, 49, 46, 53]⟩ : ByteArray).data.toList (⟨#[46]⟩ : ByteArray).data.toList = ([48, 49], [53], true) by decide] at HC
  have HN := Lib.hid (fun W => natural_any ⟨#[48, 49]⟩ W (by decide))
  rw [show natV (⟨#[48, 49]⟩ : ByteArray).data.toList = false by decide] at HN
  clear h
  go_enter Tryz.func54, Tryz.ntmps54
  go_wp2_with fail
  refine HC.out.mono ?_
  rintro e w1 ⟨rfl, n, rfl⟩
  go_wp2_with fail
  refine (HN.out _).mono ?_
  rintro e wx ⟨rfl, hxN⟩
  subst hxN
  go_wp2_with fail
  go_ret
  exact ⟨rfl, ⟨rfl, rfl, rfl, Nat.le_refl _, fun _ _ => rfl⟩⟩
set_option maxRecDepth 1000000 in
set_option maxHeartbeats 1600000 in
theorem fl_b4 (w : World) (h : Glob2 w) : Calls Tryz.prog 54 #[.string ⟨#[49, 46, 53, 101]⟩] w fun e w' => e = .returned (.bool false) ∧ Below w.heap.size w w' := by
  obtain ⟨m, hm⟩ := h.glob.knows.maxlen
  have HC := Lib.hid (Tryz.strings_Cut ⟨#[49, 46, 53, 101]⟩ ⟨#[46]⟩ m w (by decide) hm)
  rw [show Lib.cut (⟨#[49, 46, 53, 101]⟩ : ByteArray).data.toList (⟨#[46]⟩ : ByteArray).data.toList = ([49], [53, 101], true) by decide] at HC
  have HN := Lib.hid (fun W => natural_any ⟨#[49]⟩ W (by decide))
  rw [show natV (⟨#[49]⟩ : ByteArray).data.toList = true by decide] at HN
  have HD := Lib.hid (fun W => digits_any ⟨#[53, 101]⟩ W (by decide))
  rw [show digN (⟨#[53, 101]⟩ : ByteArray).data.toList = 1 by decide] at HD
  have HX := Lib.hid (fun W => Tryz.strings_CutPrefix ⟨#[101]⟩ ⟨#[101]⟩ W)
  rw [show Lib.trimPrefix (⟨#[101]⟩ : ByteArray).data.toList (⟨#[101]⟩ : ByteArray).data.toList = [] by decide, show Lib.hasPrefix (⟨#[101]⟩ : ByteArray).data.toList (⟨#[101]⟩ : ByteArray).data.toList = true by decide] at HX
  have hr2 : (⟨#[53, 101]⟩ : ByteArray).extract 1 2 = ⟨#[101]⟩ := by decide
  clear h
  go_enter Tryz.func54, Tryz.ntmps54
  go_wp2_with fail
  refine HC.out.mono ?_
  rintro e w1 ⟨rfl, n, rfl⟩
  go_wp2_with fail
  refine (HN.out _).mono ?_
  rintro e wx ⟨rfl, hxN⟩
  subst hxN
  go_wp2_with fail
  refine (HD.out _).mono ?_
  rintro e wx ⟨rfl, hxD⟩
  subst hxD
  go_wp2_with fail
  refine (HX.out _).mono ?_
  rintro e wx ⟨rfl, hxX⟩
  subst hxX
  go_wp2_with fail
  go_ret
  exact ⟨rfl, ⟨rfl, rfl, rfl, Nat.le_refl _, fun _ _ => rfl⟩⟩
set_option maxRecDepth 1000000 in
set_option maxHeartbeats 1600000 in
theorem fl_b5 (w : World) (h : Glob2 w) : Calls Tryz.prog 54 #[.string ⟨#[49, 46, 53, 101, 43]⟩] w fun e w' => e = .returned (.bool false) ∧ Below w.heap.size w w' := by
  obtain ⟨m, hm⟩ := h.glob.knows.maxlen
  have HC := Lib.hid (Tryz.strings_Cut ⟨#[49, 46, 53, 101, 43]⟩ ⟨#[46]⟩ m w (by decide) hm)
  rw [show Lib.cut (⟨#[49, 46, 53, 101, 43]⟩ : ByteArray).data.toList (⟨#[46]⟩ : ByteArray).data.toList = ([49], [53, 101, 43], true) by decide] at HC
  have HN := Lib.hid (fun W => natural_any ⟨#[49]⟩ W (by decide))
  rw [show natV (⟨#[49]⟩ : ByteArray).data.toList = true by decide] at HN
  have HD := Lib.hid (fun W => digits_any ⟨#[53, 101, 43]⟩ W (by decide))
  rw [show digN (⟨#[53, 101, 43]⟩ : ByteArray).data.toList = 1 by decide] at HD
  have HX := Lib.hid (fun W => Tryz.strings_CutPrefix ⟨#[101, 43]⟩ ⟨#[101]⟩ W)
  rw [show Lib.trimPrefix (⟨#[101, 43]⟩ : ByteArray).data.toList (⟨#[101]⟩ : ByteArray).data.toList = [43] by decide, show Lib.hasPrefix (⟨#[101, 43]⟩ : ByteArray).data.toList (⟨#[101]⟩ : ByteArray).data.toList = true by decide] at HX
  have hr2 : (⟨#[53, 101, 43]⟩ : ByteArray).extract 1 3 = ⟨#[101, 43]⟩ := by decide
  have hi0 : (⟨#[43]⟩ : ByteArray)[0]'(by decide) = 43 := rfl
  have hp2 : (⟨#[43]⟩ : ByteArray).extract 1 1 = ByteArray.empty := by decide
  clear h
  go_enter Tryz.func54, Tryz.ntmps54
  go_wp2_with fail
  refine HC.out.mono ?_
  rintro e w1 ⟨rfl, n, rfl⟩
  go_wp2_with fail
  refine (HN.out _).mono ?_
  rintro e wx ⟨rfl, hxN⟩
  subst hxN
  go_wp2_with fail
  refine (HD.out _).mono ?_
  rintro e wx ⟨rfl, hxD⟩
  subst hxD
  go_wp2_with fail
  refine (HX.out _).mono ?_
  rintro e wx ⟨rfl, hxX⟩
  subst hxX
  go_wp2_with fail
  go_ret
  exact ⟨rfl, ⟨rfl, rfl, rfl, Nat.le_refl _, fun _ _ => rfl⟩⟩
set_option maxRecDepth 1000000 in
set_option maxHeartbeats 1600000 in
theorem fl_b6 (w : World) (h : Glob2 w) : Calls Tryz.prog 54 #[.string ⟨#[49, 46, 53, 120]⟩] w fun e w' => e = .returned (.bool false) ∧ Below w.heap.size w w' := by
  obtain ⟨m, hm⟩ := h.glob.knows.maxlen
  have HC := Lib.hid (Tryz.strings_Cut ⟨#[49, 46, 53, 120]⟩ ⟨#[46]⟩ m w (by decide) hm)
  rw [show Lib.cut (⟨#[49, 46, 53, 120]⟩ : ByteArray).data.toList (⟨#[46]⟩ : ByteArray).data.toList = ([49], [53, 120], true) by decide] at HC
  have HN := Lib.hid (fun W => natural_any ⟨#[49]⟩ W (by decide))
  rw [show natV (⟨#[49]⟩ : ByteArray).data.toList = true by decide] at HN
  have HD := Lib.hid (fun W => digits_any ⟨#[53, 120]⟩ W (by decide))
  rw [show digN (⟨#[53, 120]⟩ : ByteArray).data.toList = 1 by decide] at HD
  have HX := Lib.hid (fun W => Tryz.strings_CutPrefix ⟨#[120]⟩ ⟨#[101]⟩ W)
  rw [show Lib.trimPrefix (⟨#[120]⟩ : ByteArray).data.toList (⟨#[101]⟩ : ByteArray).data.toList = [120] by decide, show Lib.hasPrefix (⟨#[120]⟩ : ByteArray).data.toList (⟨#[101]⟩ : ByteArray).data.toList = false by decide] at HX
  have hr2 : (⟨#[53, 120]⟩ : ByteArray).extract 1 2 = ⟨#[120]⟩ := by decide
  clear h
  go_enter Tryz.func54, Tryz.ntmps54
  go_wp2_with fail
  refine HC.out.mono ?_
  rintro e w1 ⟨rfl, n, rfl⟩
  go_wp2_with fail
  refine (HN.out _).mono ?_
  rintro e wx ⟨rfl, hxN⟩
  subst hxN
  go_wp2_with fail
  refine (HD.out _).mono ?_
  rintro e wx ⟨rfl, hxD⟩
  subst hxD
  go_wp2_with fail
  refine (HX.out _).mono ?_
  rintro e wx ⟨rfl, hxX⟩
  subst hxX
  go_wp2_with fail
  go_ret
  exact ⟨rfl, ⟨rfl, rfl, rfl, Nat.le_refl _, fun _ _ => rfl⟩⟩
set_option maxRecDepth 1000000 in
set_option maxHeartbeats 1600000 in
theorem fl_b7 (w : World) (h : Glob2 w) : Calls Tryz.prog 54 #[.string ⟨#[]⟩] w fun e w' => e = .returned (.bool false) ∧ Below w.heap.size w w' := by
  obtain ⟨m, hm⟩ := h.glob.knows.maxlen
  have HC := Lib.hid (Tryz.strings_Cut ⟨#[]⟩ ⟨#[46]⟩ m w (by decide) hm)
  rw [show Lib.cut (⟨#[]⟩ : ByteArray).data.toList (⟨#[46]⟩ : ByteArray).data.toList = ([], [], false) by decide] at HC
  clear h
  go_enter Tryz.func54, Tryz.ntmps54
  go_wp2_with fail
  refine HC.out.mono ?_
  rintro e w1 ⟨rfl, n, rfl⟩
  go_wp2_with fail
  go_ret
  exact ⟨rfl, ⟨rfl, rfl, rfl, Nat.le_refl _, fun _ _ => rfl⟩⟩
set_option maxRecDepth 1000000 in
set_option maxHeartbeats 1600000 in
theorem fl_b8 (w : World) (h : Glob2 w) : Calls Tryz.prog 54 #[.string ⟨#[49, 46, 53, 69, 51]⟩] w fun e w' => e = .returned (.bool false) ∧ Below w.heap.size w w' := by
  obtain ⟨m, hm⟩ := h.glob.knows.maxlen
  have HC := Lib.hid (Tryz.strings_Cut ⟨#[49, 46, 53, 69, 51]⟩ ⟨#[46]⟩ m w (by decide) hm)
  rw [show Lib.cut (⟨#[49, 46, 53, 69, 51]⟩ : ByteArray).data.toList (⟨#[46]⟩ : ByteArray).data.toList = ([49], [53, 69, 51], true) by decide] at HC
  have HN := Lib.hid (fun W => natural_any ⟨#[49]⟩ W (by decide))
  rw [show natV (⟨#[49]⟩ : ByteArray).data.toList = true by decide] at HN
  have HD := Lib.hid (fun W => digits_any ⟨#[53, 69, 51]⟩ W (by decide))
  rw [show digN (⟨#[53, 69, 51]⟩ : ByteArray).data.toList = 1 by decide] at HD
  have HX := Lib.hid (fun W => Tryz.strings_CutPrefix ⟨#[69, 51]⟩ ⟨#[101]⟩ W)
  rw [show Lib.trimPrefix (⟨#[69, 51]⟩ : ByteArray).data.toList (⟨#[101]⟩ : ByteArray).data.toList = [69, 51] by decide, show Lib.hasPrefix (⟨#[69, 51]⟩ : ByteArray).data.toList (⟨#[101]⟩ : ByteArray).data.toList = false by decide] at HX
  have hr2 : (⟨#[53, 69, 51]⟩ : ByteArray).extract 1 3 = ⟨#[69, 51]⟩ := by decide
  clear h
  go_enter Tryz.func54, Tryz.ntmps54
  go_wp2_with fail
  refine HC.out.mono ?_
  rintro e w1 ⟨rfl, n, rfl⟩
  go_wp2_with fail
  refine (HN.out _).mono ?_
  rintro e wx ⟨rfl, hxN⟩
  subst hxN
  go_wp2_with fail
  refine (HD.out _).mono ?_
  rintro e wx ⟨rfl, hxD⟩
  subst hxD
  go_wp2_with fail
  refine (HX.out _).mono ?_
  rintro e wx ⟨rfl, hxX⟩
  subst hxX
  go_wp2_with fail
  go_ret
  exact ⟨rfl, ⟨rfl, rfl, rfl, Nat.le_refl _, fun _ _ => rfl⟩⟩
set_option maxRecDepth 1000000 in
set_option maxHeartbeats 1600000 in
theorem fl_b9 (w : World) (h : Glob2 w) : Calls Tryz.prog 54 #[.string ⟨#[49, 46, 53, 101, 49, 46, 48]⟩] w fun e w' => e = .returned (.bool false) ∧ Below w.heap.size w w' := by
  obtain ⟨m, hm⟩ := h.glob.knows.maxlen
  have HC := Lib.hid (Tryz.strings_Cut ⟨#[49, 46, 53, 101, 49, 46, 48]⟩ ⟨#[46]⟩ m w (by decide) hm)
  rw [show Lib.cut (⟨#[49, 46, 53, 101, 49, 46, 48]⟩ : ByteArray).data.toList (⟨#[46]⟩ : ByteArray).data.toList = ([49], [53, 101, 49, 46, 48], true) by decide] at HC
  have HN := Lib.hid (fun W => natural_any ⟨#[49]⟩ W (by decide))
  rw [show natV (⟨#[49]⟩ : ByteArray).data.toList = true by decide] at HN
  have HD := Lib.hid (fun W => digits_any ⟨#[53, 101, 49, 46, 48]⟩ W (by decide))
  rw [show digN (⟨#[53, 101, 49, 46, 48]⟩ : ByteArray).data.toList = 1 by decide] at HD
  have HX := Lib.hid (fun W => Tryz.strings_CutPrefix ⟨#[101, 49, 46, 48]⟩ ⟨#[101]⟩ W)
  rw [show Lib.trimPrefix (⟨#[101, 49, 46, 48]⟩ : ByteArray).data.toList (⟨#[101]⟩ : ByteArray).data.toList = [49, 46, 48] by decide, show Lib.hasPrefix (⟨#[101, 49, 46, 48]⟩ : ByteArray).data.toList (⟨#[101]⟩ : ByteArray).data.toList = true by decide] at HX
  have HE := Lib.hid (fun W => digits_any ⟨#[49, 46, 48]⟩ W (by decide))
  rw [show digN (⟨#[49, 46, 48]⟩ : ByteArray).data.toList = 1 by decide] at HE
  have hr2 : (⟨#[53, 101, 49, 46, 48]⟩ : ByteArray).extract 1 5 = ⟨#[101, 49, 46, 48]⟩ := by decide
  have hi0 : (⟨#[49, 46, 48]⟩ : ByteArray)[0]'(by decide) = 49 := rfl
  clear h
  go_enter Tryz.func54, Tryz.ntmps54
  go_wp2_with fail
  refine HC.out.mono ?_
  rintro e w1 ⟨rfl, n, rfl⟩
  go_wp2_with fail
  refine (HN.out _).mono ?_
  rintro e wx ⟨rfl, hxN⟩
  subst hxN
  go_wp2_with fail
  refine (HD.out _).mono ?_
  rintro e wx ⟨rfl, hxD⟩
  subst hxD
  go_wp2_with fail
  refine (HX.out _).mono ?_
  rintro e wx ⟨rfl, hxX⟩
  subst hxX
  go_wp2_with fail
  refine (HE.out _).mono ?_
  rintro e wx ⟨rfl, hxE⟩
  subst hxE
  go_wp2_with fail
  go_ret
  exact ⟨rfl, ⟨rfl, rfl, rfl, Nat.le_refl _, fun _ _ => rfl⟩⟩
set_option maxRecDepth 1000000 in
set_option maxHeartbeats 1600000 in
theorem fl_b10 (w : World) (h : Glob2 w) : Calls Tryz.prog 54 #[.string ⟨#[45, 49, 46, 53]⟩] w fun e w' => e = .returned (.bool false) ∧ Below w.heap.size w w' := by
  obtain ⟨m, hm⟩ := h.glob.knows.maxlen
  have HC := Lib.hid (Tryz.strings_Cut ⟨#[45, 49, 46, 53]⟩ ⟨#[46]⟩ m w (by decide) hm)
  rw [show Lib.cut (⟨#[45, 49, 46, 53]⟩ : ByteArray).data.toList (⟨#[46]⟩ : ByteArray).data.toList = ([45, 49], [53], true) by decide] at HC
  have HN := Lib.hid (fun W => natural_any ⟨#[45, 49]⟩ W (by decide))
  rw [show natV (⟨#[45, 49]⟩ : ByteArray).data.toList = false by decide] at HN
  clear h
  go_enter Tryz.func54, Tryz.ntmps54
  go_wp2_with fail
  refine HC.out.mono ?_
  rintro e w1 ⟨rfl, n, rfl⟩
  go_wp2_with fail
  refine (HN.out _).mono ?_
  rintro e wx ⟨rfl, hxN⟩
  subst hxN
  go_wp2_with fail
  go_ret
  exact ⟨rfl, ⟨rfl, rfl, rfl, Nat.le_refl _, fun _ _ => rfl⟩⟩
set_option maxRecDepth 1000000 in
set_option maxHeartbeats 1600000 in
theorem fl_b11 (w : World) (h : Glob2 w) : Calls Tryz.prog 54 #[.string ⟨#[49, 46, 53, 101, 48, 48, 48, 49]⟩] w fun e w' => e = .returned (.bool false) ∧ Below w.heap.size w w' := by
  obtain ⟨m, hm⟩ := h.glob.knows.maxlen
  have HC := Lib.hid (Tryz.strings_Cut ⟨#[49, 46, 53, 101, 48, 48, 48, 49]⟩ ⟨#[46]⟩ m w (by decide) hm)
  rw [show Lib.cut (⟨#[49, 46, 53, 101, 48, 48, 48, 49]⟩ : ByteArray).data.toList (⟨#[46]⟩ : ByteArray).data.toList = ([49], [53, 101, 48, 48, 48, 49], true) by decide] at HC
  have HN := Lib.hid (fun W => natural_any ⟨#[49]⟩ W (by decide))
  rw [show natV (⟨#[49]⟩ : ByteArray).data.toList = true by decide] at HN
  have HD := Lib.hid (fun W => digits_any ⟨#[53, 101, 48, 48, 48, 49]⟩ W (by decide))
  rw [show digN (⟨#[53, 101, 48, 48, 48, 49]⟩ : ByteArray).data.toList = 1 by decide] at HD
  have HX := Lib.hid (fun W => Tryz.strings_CutPrefix ⟨#[101, 48, 48, 48, 49]⟩ ⟨#[101]⟩ W)
  rw [show Lib.trimPrefix (⟨#[101, 48, 48, 48, 49]⟩ : ByteArray).data.toList (⟨#[101]⟩ : ByteArray).data.toList = [48, 48, 48, 49] by decide, show Lib.hasPrefix (⟨#[101, 48, 48, 48, 49]⟩ : ByteArray).data.toList (⟨#[101]⟩ : ByteArray).data.toList = true by decide] at HX
  have hr2 : (⟨#[53, 101, 48, 48, 48, 49]⟩ : ByteArray).extract 1 6 = ⟨#[101, 48, 48, 48, 49]⟩ := by decide
  have hi0 : (⟨#[48, 48, 48, 49]⟩ : ByteArray)[0]'(by decide) = 48 := rfl
  clear h
  go_enter Tryz.func54, Tryz.ntmps54
  go_wp2_with fail
  refine HC.out.mono ?_
  rintro e w1 ⟨rfl, n, rfl⟩
  go_wp2_with fail
  refine (HN.out _).mono ?_
  rintro e wx ⟨rfl, hxN⟩
  subst hxN
  go_wp2_with fail
  refine (HD.out _).mono ?_
  rintro e wx ⟨rfl, hxD⟩
  subst hxD
  go_wp2_with fail
  refine (HX.out _).mono ?_
  rintro e wx ⟨rfl, hxX⟩
  subst hxX
  go_wp2_with fail
  go_ret
  exact ⟨rfl, ⟨rfl, rfl, rfl, Nat.le_refl _, fun _ _ => rfl⟩⟩
end

section
open Go.RowKit
set_option linter.unusedVariables false
set_option linter.unusedSimpArgs false

set_option maxRecDepth 1000000 in
set_option maxHeartbeats 1600000 in
theorem fl_g0 (w : World) (h : Glob2 w) : Calls Tryz.prog 54 #[.string ⟨#[49, 46, 55, 57, 55, 54, 57, 51, 49, 51, 52, 56, 54, 50, 51, 49, 53, 57, 101, 51, 48, 56]⟩] w fun e w' => e = .returned (.bool true) ∧ Below w.heap.size w w' := by
  obtain ⟨m, hm⟩ := h.glob.knows.maxlen
  have HC := Lib.hid (Tryz.strings_Cut ⟨#[49, 46, 55, 57, 55, 54, 57, 51, 49, 51, 52, 56, 54, 50, 51, 49, 53, 57, 101, 51, 48, 56]⟩ ⟨#[46]⟩ m w (by decide) hm)
  rw [show Lib.cut (⟨#[49, 46, 55, 57, 55, 54, 57, 51, 49, 51, 52, 56, 54, 50, 51, 49, 53, 57, 101, 51, 48, 56]⟩ : ByteArray).data.toList (⟨#[46]⟩ : ByteArray).data.toList = ([49], [55, 57, 55, 54, 57, 51, 49, 51, 52, 56, 54, 50, 51, 49, 53, 57, 101, 51, 48, 56], true) by decide] at HC
  have HN := Lib.hid (fun W => natural_any ⟨#[49]⟩ W (by decide))
  rw [show natV (⟨#[49]⟩ : ByteArray).data.toList = true by decide] at HN
  have HD := Lib.hid (fun W => digits_any ⟨#[55, 57, 55, 54, 57, 51, 49, 51, 52, 56, 54, 50, 51, 49, 53, 57, 101, 51, 48, 56]⟩ W (by decide))
  rw [show digN (⟨#[55, 57, 55, 54, 57, 51, 49, 51, 52, 56, 54, 50, 51, 49, 53, 57, 101, 51, 48, 56]⟩ : ByteArray).data.toList = 16 by decide] at HD
  have HX := Lib.hid (fun W => Tryz.strings_CutPrefix ⟨#[101, 51, 48, 56]⟩ ⟨#[101]⟩ W)
  rw [show Lib.trimPrefix (⟨#[101, 51, 48, 56]⟩ : ByteArray).data.toList (⟨#[101]⟩ : ByteArray).data.toList = [51, 48, 56] by decide, show Lib.hasPrefix (⟨#[101, 51, 48, 56]⟩ : ByteArray).data.toList (⟨#[101]⟩ : ByteArray).data.toList = true by decide] at HX
  have HE := Lib.hid (fun W => digits_any ⟨#[51, 48, 56]⟩ W (by decide))
  rw [show digN (⟨#[51, 48, 56]⟩ : ByteArray).data.toList = 3 by decide] at HE
  have hr2 : (⟨#[55, 57, 55, 54, 57, 51, 49, 51, 52, 56, 54, 50, 51, 49, 53, 57, 101, 51, 48, 56]⟩ : ByteArray).extract 16 20 = ⟨#[101, 51, 48, 56]⟩ := by decide
  have hi0 : (⟨#[51, 48, 56]⟩ : ByteArray)[0]'(by decide) = 51 := rfl
  clear h
  go_enter Tryz.func54, Tryz.ntmps54
  go_wp2_with fail
  refine HC.out.mono ?_
  rintro e w1 ⟨rfl, n, rfl⟩
  go_wp2_with fail
  refine (HN.out _).mono ?_
  rintro e wx ⟨rfl, hxN⟩
  subst hxN
  go_wp2_with fail
  refine (HD.out _).mono ?_
  rintro e wx ⟨rfl, hxD⟩
  subst hxD
  go_wp2_with fail
  refine (HX.out _).mono ?_
  rintro e wx ⟨rfl, hxX⟩
  subst hxX
  go_wp2_with fail
  refine (HE.out _).mono ?_
  rintro e wx ⟨rfl, hxE⟩
  subst hxE
  go_wp2_with fail
  go_ret
  exact ⟨rfl, ⟨rfl, rfl, rfl, Nat.le_refl _, fun _ _ => rfl⟩⟩
set_option maxRecDepth 1000000 in
set_option maxHeartbeats 1600000 in
theorem fl_g1 (w : World) (h : Glob2 w) : Calls Tryz.prog 54 #[.string ⟨#[48, 46, 49]⟩] w fun e w' => e = .returned (.bool true) ∧ Below w.heap.size w w' := by
  obtain ⟨m, hm⟩ := h.glob.knows.maxlen
  have HC := Lib.hid (Tryz.strings_Cut ⟨#[48, 46, 49]⟩ ⟨#[46]⟩ m w (by decide) hm)
  rw [show Lib.cut (⟨#[48, 46, 49]⟩ : ByteArray).data.toList (⟨#[46]⟩ : ByteArray).data.toList = ([48], [49], true) by decide] at HC
  have HN := Lib.hid (fun W => natural_any ⟨#[48]⟩ W (by decide))
  rw [show natV (⟨#[48]⟩ : ByteArray).data.toList = true by decide] at HN
  have HD := Lib.hid (fun W => digits_any ⟨#[49]⟩ W (by decide))
  rw [show digN (⟨#[49]⟩ : ByteArray).data.toList = 1 by decide] at HD
  have HX := Lib.hid (fun W => Tryz.strings_CutPrefix ByteArray.empty ⟨#[101]⟩ W)
  rw [show Lib.trimPrefix (ByteArray.empty : ByteArray).data.toList (⟨#[101]⟩ : ByteArray).data.toList = [] by decide, show Lib.hasPrefix (ByteArray.empty : ByteArray).data.toList (⟨#[101]⟩ : ByteArray).data.toList = false by decide] at HX
  have hr2 : (⟨#[49]⟩ : ByteArray).extract 1 1 = ByteArray.empty := by decide
  clear h
  go_enter Tryz.func54, Tryz.ntmps54
  go_wp2_with fail
  refine HC.out.mono ?_
  rintro e w1 ⟨rfl, n, rfl⟩
  go_wp2_with fail
  refine (HN.out _).mono ?_
  rintro e wx ⟨rfl, hxN⟩
  subst hxN
  go_wp2_with fail
  refine (HD.out _).mono ?_
  rintro e wx ⟨rfl, hxD⟩
  subst hxD
  go_wp2_with fail
  refine (HX.out _).mono ?_
  rintro e wx ⟨rfl, hxX⟩
  subst hxX
  go_wp2_with fail
  go_ret
  exact ⟨rfl, ⟨rfl, rfl, rfl, Nat.le_refl _, fun _ _ => rfl⟩⟩
set_option maxRecDepth 1000000 in
set_option maxHeartbeats 1600000 in
theorem fl_g2 (w : World) (h : Glob2 w) : Calls Tryz.prog 54 #[.string ⟨#[57, 48, 48, 55, 49, 57, 57, 50, 53, 52, 55, 52, 48, 57, 57, 51, 46, 48]⟩] w fun e w' => e = .returned (.bool true) ∧ Below w.heap.size w w' := by
  obtain ⟨m, hm⟩ := h.glob.knows.maxlen
  have HC := Lib.hid (Tryz.strings_Cut ⟨#[57, 48, 48, 55, 49, 57, 57, 50, 53, 52, 55, 52, 48, 57, 57, 51, 46, 48]⟩ ⟨#[46]⟩ m w (by decide) hm)
  rw [show Lib.cut (⟨#[57, 48, 48, 55, 49, 57, 57, 50, 53, 52, 55, 52, 48, 57, 57, 51, 46, 48]⟩ : ByteArray).data.toList (⟨#[46]⟩ : ByteArray).data.toList = ([57, 48, 48, 55, 49, 57, 57, 50, 53, 52, 55, 52, 48, 57, 57, 51], [48], true) by decide] at HC
  have HN := Lib.hid (fun W => natural_any ⟨#[57, 48, 48, 55, 49, 57, 57, 50, 53, 52, 55, 52, 48, 57, 57, 51]⟩ W (by decide))
  rw [show natV (⟨#[57, 48, 48, 55, 49, 57, 57, 50, 53, 52, 55, 52, 48, 57, 57, 51]⟩ : ByteArray).data.toList = true by decide] at HN
  have HD := Lib.hid (fun W => digits_any ⟨#[48]⟩ W (by decide))
  rw [show digN (⟨#[48]⟩ : ByteArray).data.toList = 1 by decide] at HD
  have HX := Lib.hid (fun W => Tryz.strings_CutPrefix ByteArray.empty ⟨#[101]⟩ W)
  rw [show Lib.trimPrefix (ByteArray.empty : ByteArray).data.toList (⟨#[101]⟩ : ByteArray).data.toList = [] by decide, show Lib.hasPrefix (ByteArray.empty : ByteArray).data.toList (⟨#[101]⟩ : ByteArray).data.toList = false by decide] at HX
  have hr2 : (⟨#[48]⟩ : ByteArray).extract 1 1 = ByteArray.empty := by decide
  clear h
  go_enter Tryz.func54, Tryz.ntmps54
  go_wp2_with fail
  refine HC.out.mono ?_
  rintro e w1 ⟨rfl, n, rfl⟩
  go_wp2_with fail
  refine (HN.out _).mono ?_
  rintro e wx ⟨rfl, hxN⟩
  subst hxN
  go_wp2_with fail
  refine (HD.out _).mono ?_
  rintro e wx ⟨rfl, hxD⟩
  subst hxD
  go_wp2_with fail
  refine (HX.out _).mono ?_
  rintro e wx ⟨rfl, hxX⟩
  subst hxX
  go_wp2_with fail
  go_ret
  exact ⟨rfl, ⟨rfl, rfl, rfl, Nat.le_refl _, fun _ _ => rfl⟩⟩
set_option maxRecDepth 1000000 in
set_option maxHeartbeats 1600000 in
theorem fl_g3 (w : World) (h : Glob2 w) : Calls Tryz.prog 54 #[.string ⟨#[52, 46, 57, 101, 45, 51, 50, 52]⟩] w fun e w' => e = .returned (.bool true) ∧ Below w.heap.size w w' := by
  obtain ⟨m, hm⟩ := h.glob.knows.maxlen
  have HC := Lib.hid (Tryz.strings_Cut ⟨#[52, 46, 57, 101, 45, 51, 50, 52]⟩ ⟨#[46]⟩ m w (by decide) hm)
  rw [show Lib.cut (⟨#[52, 46, 57, 101, 45, 51, 50, 52]⟩ : ByteArray).data.toList (⟨#[46]⟩ : ByteArray).data.toList = ([52], [57, 101, 45, 51, 50, 52], true) by decide] at HC
  have HN := Lib.hid (fun W => natural_any ⟨#[52]⟩ W (by decide))
  rw [show natV (⟨#[52]⟩ : ByteArray).data.toList = true by decide] at HN
  have HD := Lib.hid (fun W => digits_any ⟨#[57, 101, 45, 51, 50, 52]⟩ W (by decide))
  rw [show digN (⟨#[57, 101, 45, 51, 50, 52]⟩ : ByteArray).data.toList = 1 by decide] at HD
  have HX := Lib.hid (fun W => Tryz.strings_CutPrefix ⟨#[101, 45, 51, 50, 52]⟩ ⟨#[101]⟩ W)
  rw [show Lib.trimPrefix (⟨#[101, 45, 51, 50, 52]⟩ : ByteArray).data.toList (⟨#[101]⟩ : ByteArray).data.toList = [45, 51, 50, 52] by decide, show Lib.hasPrefix (⟨#[101, 45, 51, 50, 52]⟩ : ByteArray).data.toList (⟨#[101]⟩ : ByteArray).data.toList = true by decide] at HX
  have HE := Lib.hid (fun W => digits_any ⟨#[51, 50, 52]⟩ W (by decide))
  rw [show digN (⟨#[51, 50, 52]⟩ : ByteArray).data.toList = 3 by decide] at HE
  have hr2 : (⟨#[57, 101, 45, 51, 50, 52]⟩ : ByteArray).extract 1 6 = ⟨#[101, 45, 51, 50, 52]⟩ := by decide
  have hi0 : (⟨#[45, 51, 50, 52]⟩ : ByteArray)[0]'(by decide) = 45 := rfl
  have hp2 : (⟨#[45, 51, 50, 52]⟩ : ByteArray).extract 1 4 = ⟨#[51, 50, 52]⟩ := by decide
  clear h
  go_enter Tryz.func54, Tryz.ntmps54
  go_wp2_with fail
  refine HC.out.mono ?_
  rintro e w1 ⟨rfl, n, rfl⟩
  go_wp2_with fail
  refine (HN.out _).mono ?_
  rintro e wx ⟨rfl, hxN⟩
  subst hxN
  go_wp2_with fail
  refine (HD.out _).mono ?_
  rintro e wx ⟨rfl, hxD⟩
  subst hxD
  go_wp2_with fail
  refine (HX.out _).mono ?_
  rintro e wx ⟨rfl, hxX⟩
  subst hxX
  go_wp2_with fail
  refine (HE.out _).mono ?_
  rintro e wx ⟨rfl, hxE⟩
  subst hxE
  go_wp2_with fail
  go_ret
  exact ⟨rfl, ⟨rfl, rfl, rfl, Nat.le_refl _, fun _ _ => rfl⟩⟩
set_option maxRecDepth 1000000 in
set_option maxHeartbeats 1600000 in
theorem fl_g4 (w : World) (h : Glob2 w) : Calls Tryz.prog 54 #[.string ⟨#[49, 46, 55, 57, 55, 54, 57, 51, 49, 51, 52, 56, 54, 50, 51, 49, 53, 55, 101, 51, 48, 56]⟩] w fun e w' => e = .returned (.bool true) ∧ Below w.heap.size w w' := by
  obtain ⟨m, hm⟩ := h.glob.knows.maxlen
  have HC := Lib.hid (Tryz.strings_Cut ⟨#[49, 46, 55, 57, 55, 54, 57, 51, 49, 51, 52, 56, 54, 50, 51, 49, 53, 55, 101, 51, 48, 56]⟩ ⟨#[46]⟩ m w (by decide) hm)
  rw [show Lib.cut (⟨#[49, 46, 55, 57, 55, 54, 57, 51, 49, 51, 52, 56, 54, 50, 51, 49, 53, 55, 101, 51, 48, 56]⟩ : ByteArray).data.toList (⟨#[46]⟩ : ByteArray).data.toList = ([49], [55, 57, 55, 54, 57, 51, 49, 51, 52, 56, 54, 50, 51, 49, 53, 55, 101, 51, 48, 56], true) by decide] at HC
  have HN := Lib.hid (fun W => natural_any ⟨#[49]⟩ W (by decide))
  rw [show natV (⟨#[49]⟩ : ByteArray).data.toList = true by decide] at HN
  have HD := Lib.hid (fun W => digits_any ⟨#[55, 57, 55, 54, 57, 51, 49, 51, 52, 56, 54, 50, 51, 49, 53, 55, 101, 51, 48, 56]⟩ W (by decide))
  rw [show digN (⟨#[55, 57, 55, 54, 57, 51, 49, 51, 52, 56, 54, 50, 51, 49, 53, 55, 101, 51, 48, 56]⟩ : ByteArray).data.toList = 16 by decide] at HD
  have HX := Lib.hid (fun W => Tryz.strings_CutPrefix ⟨#[101, 51, 48, 56]⟩ ⟨#[101]⟩ W)
  rw [show Lib.trimPrefix (⟨#[101, 51, 48, 56]⟩ : ByteArray).data.toList (⟨#[101]⟩ : ByteArray).data.toList = [51, 48, 56] by decide, show Lib.hasPrefix (⟨#[101, 51, 48, 56]⟩ : ByteArray).data.toList (⟨#[101]⟩ : ByteArray).data.toList = true by decide] at HX
  have HE := Lib.hid (fun W => digits_any ⟨#[51, 48, 56]⟩ W (by decide))
  rw [show digN (⟨#[51, 48, 56]⟩ : ByteArray).data.toList = 3 by decide] at HE
  have hr2 : (⟨#[55, 57, 55, 54, 57, 51, 49, 51, 52, 56, 54, 50, 51, 49, 53, 55, 101, 51, 48, 56]⟩ : ByteArray).extract 16 20 = ⟨#[101, 51, 48, 56]⟩ := by decide
  have hi0 : (⟨#[51, 48, 56]⟩ : ByteArray)[0]'(by decide) = 51 := rfl
  clear h
  go_enter Tryz.func54, Tryz.ntmps54
  go_wp2_with fail
  refine HC.out.mono ?_
  rintro e w1 ⟨rfl, n, rfl⟩
  go_wp2_with fail
  refine (HN.out _).mono ?_
  rintro e wx ⟨rfl, hxN⟩
  subst hxN
  go_wp2_with fail
  refine (HD.out _).mono ?_
  rintro e wx ⟨rfl, hxD⟩
  subst hxD
  go_wp2_with fail
  refine (HX.out _).mono ?_
  rintro e wx ⟨rfl, hxX⟩
  subst hxX
  go_wp2_with fail
  refine (HE.out _).mono ?_
  rintro e wx ⟨rfl, hxE⟩
  subst hxE
  go_wp2_with fail
  go_ret
  exact ⟨rfl, ⟨rfl, rfl, rfl, Nat.le_refl _, fun _ _ => rfl⟩⟩
set_option maxRecDepth 1000000 in
set_option maxHeartbeats 1600000 in
theorem fl_g5 (w : World) (h : Glob2 w) : Calls Tryz.prog 54 #[.string ⟨#[50, 46, 52, 55, 48, 51, 50, 56, 50, 50, 57, 50, 48, 54, 50, 51, 50, 55, 101, 45, 51, 50, 52]⟩] w fun e w' => e = .returned (.bool true) ∧ Below w.heap.size w w' := by
  obtain ⟨m, hm⟩ := h.glob.knows.maxlen
  have HC := Lib.hid (Tryz.strings_Cut ⟨#[50, 46, 52, 55, 48, 51, 50, 56, 50, 50, 57, 50, 48, 54, 50, 51, 50, 55, 101, 45, 51, 50, 52]⟩ ⟨#[46]⟩ m w (by decide) hm)
  rw [show Lib.cut (⟨#[50, 46, 52, 55, 48, 51, 50, 56, 50, 50, 57, 50, 48, 54, 50, 51, 50, 55, 101, 45, 51, 50, 52]⟩ : ByteArray).data.toList (⟨#[46]⟩ : ByteArray).data.toList = ([50], [52, 55, 48, 51, 50, 56, 50, 50, 57, 50, 48, 54, 50, 51, 50, 55, 101, 45, 51, 50, 52], true) by decide] at HC
  have HN := Lib.hid (fun W => natural_any ⟨#[50]⟩ W (by decide))
  rw [show natV (⟨#[50]⟩ : ByteArray).data.toList = true by decide] at HN
  have HD := Lib.hid (fun W => digits_any ⟨#[52, 55, 48, 51, 50, 56, 50, 50, 57, 50, 48, 54, 50, 51, 50, 55, 101, 45, 51, 50, 52]⟩ W (by decide))
  rw [show digN (⟨#[52, 55, 48, 51, 50, 56, 50, 50, 57, 50, 48, 54, 50, 51, 50, 55, 101, 45, 51, 50, 52]⟩ : ByteArray).data.toList = 16 by decide] at HD
  have HX := Lib.hid (fun W => Tryz.strings_CutPrefix ⟨#[101, 45, 51, 50, 52]⟩ ⟨#[101]⟩ W)
  rw [show Lib.trimPrefix (⟨#[101, 45, 51, 50, 52]⟩ : ByteArray).data.toList (⟨#[101]⟩ : ByteArray).data.toList = [45, 51, 50, 52] by decide, show Lib.hasPrefix (⟨#[101, 45, 51, 50, 52]⟩ : ByteArray).data.toList (⟨#[101]⟩ : ByteArray).data.toList = true by decide] at HX
  have HE := Lib.hid (fun W => digits_any ⟨#[51, 50, 52]⟩ W (by decide))
  rw [show digN (⟨#[51, 50, 52]⟩ : ByteArray).data.toList = 3 by decide] at HE
  have hr2 : (⟨#[52, 55, 48, 51, 50, 56, 50, 50, 57, 50, 48, 54, 50, 51, 50, 55, 101, 45, 51, 50, 52]⟩ : ByteArray).extract 16 21 = ⟨#[101, 45, 51, 50, 52]⟩ := by decide
  have hi0 : (⟨#[45, 51, 50, 52]⟩ : ByteArray)[0]'(by decide) = 45 := rfl
  have hp2 : (⟨#[45, 51, 50, 52]⟩ : ByteArray).extract 1 4 = ⟨#[51, 50, 52]⟩ := by decide
  clear h
  go_enter Tryz.func54, Tryz.ntmps54
  go_wp2_with fail
  refine HC.out.mono ?_
  rintro e w1 ⟨rfl, n, rfl⟩
  go_wp2_with fail
  refine (HN.out _).mono ?_
  rintro e wx ⟨rfl, hxN⟩
  subst hxN
  go_wp2_with fail
  refine (HD.out _).mono ?_
  rintro e wx ⟨rfl, hxD⟩
  subst hxD
  go_wp2_with fail
  refine (HX.out _).mono ?_
  rintro e wx ⟨rfl, hxX⟩
  subst hxX
  go_wp2_with fail
  refine (HE.out _).mono ?_
  rintro e wx ⟨rfl, hxE⟩
  subst hxE
  go_wp2_with fail
  go_ret
  exact ⟨rfl, ⟨rfl, rfl, rfl, Nat.le_refl _, fun _ _ => rfl⟩⟩
set_option maxRecDepth 1000000 in
set_option maxHeartbeats 1600000 in
theorem fl_g6 (w : World) (h : Glob2 w) : Calls Tryz.prog 54 #[.string ⟨#[50, 46, 52, 55, 48, 51, 50, 56, 50, 50, 57, 50, 48, 54, 50, 51, 50, 56, 101, 45, 51, 50, 52]⟩] w fun e w' => e = .returned (.bool true) ∧ Below w.heap.size w w' := by
  obtain ⟨m, hm⟩ := h.glob.knows.maxlen
  have HC := Lib.hid (Tryz.strings_Cut ⟨#[50, 46, 52, 55, 48, 51, 50, 56, 50, 50, 57, 50, 48, 54, 50, 51, 50, 56, 101, 45, 51, 50, 52]⟩ ⟨#[46]⟩ m w (by decide) hm)
  rw [show Lib.cut (⟨#[50, 46, 52, 55, 48, 51, 50, 56, 50, 50, 57, 50, 48, 54, 50, 51, 50, 56, 101, 45, 51, 50, 52]⟩ : ByteArray).data.toList (⟨#[46]⟩ : ByteArray).data.toList = ([50], [52, 55, 48, 51, 50, 56, 50, 50, 57, 50, 48, 54, 50, 51, 50, 56, 101, 45, 51, 50, 52], true) by decide] at HC
  have HN := Lib.hid (fun W => natural_any ⟨#[50]⟩ W (by decide))
  rw [show natV (⟨#[50]⟩ : ByteArray).data.toList = true by decide] at HN
  have HD := Lib.hid (fun W => digits_any ⟨#[52, 55, 48, 51, 50, 56, 50, 50, 57, 50, 48, 54, 50, 51, 50, 56, 101, 45, 51, 50, 52]⟩ W (by decide))
  rw [show digN (⟨#[52, 55, 48, 51, 50, 56, 50, 50, 57, 50, 48, 54, 50, 51, 50, 56, 101, 45, 51, 50, 52]⟩ : ByteArray).data.toList = 16 by decide] at HD
  have HX := Lib.hid (fun W => Tryz.strings_CutPrefix ⟨#[101, 45, 51, 50, 52]⟩ ⟨#[101]⟩ W)
  rw [show Lib.trimPrefix (⟨#[101, 45, 51, 50, 52]⟩ : ByteArray).data.toList (⟨#[101]⟩ : ByteArray).data.toList = [45, 51, 50, 52] by decide, show Lib.hasPrefix (⟨#[101, 45, 51, 50, 52]⟩ : ByteArray).data.toList (⟨#[101]⟩ : ByteArray).data.toList = true by decide] at HX
  have HE := Lib.hid (fun W => digits_any ⟨#[51, 50, 52]⟩ W (by decide))
  rw [show digN (⟨#[51, 50, 52]⟩ : ByteArray).data.toList = 3 by decide] at HE
  have hr2 : (⟨#[52, 55, 48, 51, 50, 56, 50, 50, 57, 50, 48, 54, 50, 51, 50, 56, 101, 45, 51, 50, 52]⟩ : ByteArray).extract 16 21 = ⟨#[101, 45, 51, 50, 52]⟩ := by decide
  have hi0 : (⟨#[45, 51, 50, 52]⟩ : ByteArray)[0]'(by decide) = 45 := rfl
  have hp2 : (⟨#[45, 51, 50, 52]⟩ : ByteArray).extract 1 4 = ⟨#[51, 50, 52]⟩ := by decide
  clear h
  go_enter Tryz.func54, Tryz.ntmps54
  go_wp2_with fail
  refine HC.out.mono ?_
  rintro e w1 ⟨rfl, n, rfl⟩
  go_wp2_with fail
  refine (HN.out _).mono ?_
  rintro e wx ⟨rfl, hxN⟩
  subst hxN
  go_wp2_with fail
  refine (HD.out _).mono ?_
  rintro e wx ⟨rfl, hxD⟩
  subst hxD
  go_wp2_with fail
  refine (HX.out _).mono ?_
  rintro e wx ⟨rfl, hxX⟩
  subst hxX
  go_wp2_with fail
  refine (HE.out _).mono ?_
  rintro e wx ⟨rfl, hxE⟩
  subst hxE
  go_wp2_with fail
  go_ret
  exact ⟨rfl, ⟨rfl, rfl, rfl, Nat.le_refl _, fun _ _ => rfl⟩⟩
set_option maxRecDepth 1000000 in
set_option maxHeartbeats 1600000 in
theorem fl_g7 (w : World) (h : Glob2 w) : Calls Tryz.prog 54 #[.string ⟨#[48, 46, 48, 101, 57, 57, 57]⟩] w fun e w' => e = .returned (.bool true) ∧ Below w.heap.size w w' := by
  obtain ⟨m, hm⟩ := h.glob.knows.maxlen
  have HC := Lib.hid (Tryz.strings_Cut ⟨#[48, 46, 48, 101, 57, 57, 57]⟩ ⟨#[46]⟩ m w (by decide) hm)
  rw [show Lib.cut (⟨#[48, 46, 48, 101, 57, 57, 57]⟩ : ByteArray).data.toList (⟨#[46]⟩ : ByteArray).data.toList = ([48], [48, 101, 57, 57, 57], true) by decide] at HC
  have HN := Lib.hid (fun W => natural_any ⟨#[48]⟩ W (by decide))
  rw [show natV (⟨#[48]⟩ : ByteArray).data.toList = true by decide] at HN
  have HD := Lib.hid (fun W => digits_any ⟨#[48, 101, 57, 57, 57]⟩ W (by decide))
  rw [show digN (⟨#[48, 101, 57, 57, 57]⟩ : ByteArray).data.toList = 1 by decide] at HD
  have HX := Lib.hid (fun W => Tryz.strings_CutPrefix ⟨#[101, 57, 57, 57]⟩ ⟨#[101]⟩ W)
  rw [show Lib.trimPrefix (⟨#[101, 57, 57, 57]⟩ : ByteArray).data.toList (⟨#[101]⟩ : ByteArray).data.toList = [57, 57, 57] by decide, show Lib.hasPrefix (⟨#[101, 57, 57, 57]⟩ : ByteArray).data.toList (⟨#[101]⟩ : ByteArray).data.toList = true by decide] at HX
  have HE := Lib.hid (fun W => digits_any ⟨#[57, 57, 57]⟩ W (by decide))
  rw [show digN (⟨#[57, 57, 57]⟩ : ByteArray).data.toList = 3 by decide] at HE
  have hr2 : (⟨#[48, 101, 57, 57, 57]⟩ : ByteArray).extract 1 5 = ⟨#[101, 57, 57, 57]⟩ := by decide
  have hi0 : (⟨#[57, 57, 57]⟩ : ByteArray)[0]'(by decide) = 57 := rfl
  clear h
  go_enter Tryz.func54, Tryz.ntmps54
  go_wp2_with fail
  refine HC.out.mono ?_
  rintro e w1 ⟨rfl, n, rfl⟩
  go_wp2_with fail
  refine (HN.out _).mono ?_
  rintro e wx ⟨rfl, hxN⟩
  subst hxN
  go_wp2_with fail
  refine (HD.out _).mono ?_
  rintro e wx ⟨rfl, hxD⟩
  subst hxD
  go_wp2_with fail
  refine (HX.out _).mono ?_
  rintro e wx ⟨rfl, hxX⟩
  subst hxX
  go_wp2_with fail
  refine (HE.out _).mono ?_
  rintro e wx ⟨rfl, hxE⟩
  subst hxE
  go_wp2_with fail
  go_ret
  exact ⟨rfl, ⟨rfl, rfl, rfl, Nat.le_refl _, fun _ _ => rfl⟩⟩
set_option maxRecDepth 1000000 in
set_option maxHeartbeats 1600000 in
theorem fl_g8 (w : World) (h : Glob2 w) : Calls Tryz.prog 54 #[.string ⟨#[49, 46, 48, 101, 45, 57, 57, 57]⟩] w fun e w' => e = .returned (.bool true) ∧ Below w.heap.size w w' := by
  obtain ⟨m, hm⟩ := h.glob.knows.maxlen
  have HC := Lib.hid (Tryz.strings_Cut ⟨#[49, 46, 48, 101, 45, 57, 57, 57]⟩ ⟨#[46]⟩ m w (by decide) hm)
  rw [show Lib.cut (⟨#[49, 46, 48, 101, 45, 57, 57, 57]⟩ : ByteArray).data.toList (⟨#[46]⟩ : ByteArray).data.toList = ([49], [48, 101, 45, 57, 57, 57], true) by decide] at HC
  have HN := Lib.hid (fun W => natural_any ⟨#[49]⟩ W (by decide))
  rw [show natV (⟨#[49]⟩ : ByteArray).data.toList = true by decide] at HN
  have HD := Lib.hid (fun W => digits_any ⟨#[48, 101, 45, 57, 57, 57]⟩ W (by decide))
  rw [show digN (⟨#[48, 101, 45, 57, 57, 57]⟩ : ByteArray).data.toList = 1 by decide] at HD
  have HX := Lib.hid (fun W => Tryz.strings_CutPrefix ⟨#[101, 45, 57, 57, 57]⟩ ⟨#[101]⟩ W)
  rw [show Lib.trimPrefix (⟨#[101, 45, 57, 57, 57]⟩ : ByteArray).data.toList (⟨#[101]⟩ : ByteArray).data.toList = [45, 57, 57, 57] by decide, show Lib.hasPrefix (⟨#[101, 45, 57, 57, 57]⟩ : ByteArray).data.toList (⟨#[101]⟩ : ByteArray).data.toList = true by decide] at HX
  have HE := Lib.hid (fun W => digits_any ⟨#[57, 57, 57]⟩ W (by decide))
  rw [show digN (⟨#[57, 57, 57]⟩ : ByteArray).data.toList = 3 by decide] at HE
  have hr2 : (⟨#[48, 101, 45, 57, 57, 57]⟩ : ByteArray).extract 1 6 = ⟨#[101, 45, 57, 57, 57]⟩ := by decide
  have hi0 : (⟨#[45, 57, 57, 57]⟩ : ByteArray)[0]'(by decide) = 45 := rfl
  have hp2 : (⟨#[45, 57, 57, 57]⟩ : ByteArray).extract 1 4 = ⟨#[57, 57, 57]⟩ := by decide
  clear h
  go_enter Tryz.func54, Tryz.ntmps54
  go_wp2_with fail
  refine HC.out.mono ?_
  rintro e w1 ⟨rfl, n, rfl⟩
  go_wp2_with fail
  refine (HN.out _).mono ?_
  rintro e wx ⟨rfl, hxN⟩
  subst hxN
  go_wp2_with fail
  refine (HD.out _).mono ?_
  rintro e wx ⟨rfl, hxD⟩
  subst hxD
  go_wp2_with fail
  refine (HX.out _).mono ?_
  rintro e wx ⟨rfl, hxX⟩
  subst hxX
  go_wp2_with fail
  refine (HE.out _).mono ?_
  rintro e wx ⟨rfl, hxE⟩
  subst hxE
  go_wp2_with fail
  go_ret
  exact ⟨rfl, ⟨rfl, rfl, rfl, Nat.le_refl _, fun _ _ => rfl⟩⟩
set_option maxRecDepth 1000000 in
set_option maxHeartbeats 1600000 in
theorem fl_g9 (w : World) (h : Glob2 w) : Calls Tryz.prog 54 #[.string ⟨#[49, 46, 48, 101, 45, 48, 48, 53]⟩] w fun e w' => e = .returned (.bool true) ∧ Below w.heap.size w w' := by
  obtain ⟨m, hm⟩ := h.glob.knows.maxlen
  have HC := Lib.hid (Tryz.strings_Cut ⟨#[49, 46, 48, 101, 45, 48, 48, 53]⟩ ⟨#[46]⟩ m w (by decide) hm)
  rw [show Lib.cut (⟨#[49, 46, 48, 101, 45, 48, 48, 53]⟩ : ByteArray).data.toList (⟨#[46]⟩ : ByteArray).data.toList = ([49], [48, 101, 45, 48, 48, 53], true) by decide] at HC
  have HN := Lib.hid (fun W => natural_any ⟨#[49]⟩ W (by decide))
  rw [show natV (⟨#[49]⟩ : ByteArray).data.toList = true by decide] at HN
  have HD := Lib.hid (fun W => digits_any ⟨#[48, 101, 45, 48, 48, 53]⟩ W (by decide))
  rw [show digN (⟨#[48, 101, 45, 48, 48, 53]⟩ : ByteArray).data.toList = 1 by decide] at HD
  have HX := Lib.hid (fun W => Tryz.strings_CutPrefix ⟨#[101, 45, 48, 48, 53]⟩ ⟨#[101]⟩ W)
  rw [show Lib.trimPrefix (⟨#[101, 45, 48, 48, 53]⟩ : ByteArray).data.toList (⟨#[101]⟩ : ByteArray).data.toList = [45, 48, 48, 53] by decide, show Lib.hasPrefix (⟨#[101, 45, 48, 48, 53]⟩ : ByteArray).data.toList (⟨#[101]⟩ : ByteArray).data.toList = true by decide] at HX
  have HE := Lib.hid (fun W => digits_any ⟨#[48, 48, 53]⟩ W (by decide))
  rw [show digN (⟨#[48, 48, 53]⟩ : ByteArray).data.toList = 3 by decide] at HE
  have hr2 : (⟨#[48, 101, 45, 48, 48, 53]⟩ : ByteArray).extract 1 6 = ⟨#[101, 45, 48, 48, 53]⟩ := by decide
  have hi0 : (⟨#[45, 48, 48, 53]⟩ : ByteArray)[0]'(by decide) = 45 := rfl
  have hp2 : (⟨#[45, 48, 48, 53]⟩ : ByteArray).extract 1 4 = ⟨#[48, 48, 53]⟩ := by decide
  clear h
  go_enter Tryz.func54, Tryz.ntmps54
  go_wp2_with fail
  refine HC.out.mono ?_
  rintro e w1 ⟨rfl, n, rfl⟩
  go_wp2_with fail
  refine (HN.out _).mono ?_
  rintro e wx ⟨rfl, hxN⟩
  subst hxN
  go_wp2_with fail
  refine (HD.out _).mono ?_
  rintro e wx ⟨rfl, hxD⟩
  subst hxD
  go_wp2_with fail
  refine (HX.out _).mono ?_
  rintro e wx ⟨rfl, hxX⟩
  subst hxX
  go_wp2_with fail
  refine (HE.out _).mono ?_
  rintro e wx ⟨rfl, hxE⟩
  subst hxE
  go_wp2_with fail
  go_ret
  exact ⟨rfl, ⟨rfl, rfl, rfl, Nat.le_refl _, fun _ _ => rfl⟩⟩
set_option maxRecDepth 1000000 in
set_option maxHeartbeats 1600000 in
theorem fl_g10 (w : World) (h : Glob2 w) : Calls Tryz.prog 54 #[.string ⟨#[48, 46, 48, 48, 48, 48, 49]⟩] w fun e w' => e = .returned (.bool true) ∧ Below w.heap.size w w' := by
  obtain ⟨m, hm⟩ := h.glob.knows.maxlen
  have HC := Lib.hid (Tryz.strings_Cut ⟨#[48, 46, 48, 48, 48, 48, 49]⟩ ⟨#[46]⟩ m w (by decide) hm)
  rw [show Lib.cut (⟨#[48, 46, 48, 48, 48, 48, 49]⟩ : ByteArray).data.toList (⟨#[46]⟩ : ByteArray).data.toList = ([48], [48, 48, 48, 48, 49], true) by decide] at HC
  have HN := Lib.hid (fun W => natural_any ⟨#[48]⟩ W (by decide))
  rw [show natV (⟨#[48]⟩ : ByteArray).data.toList = true by decide] at HN
  have HD := Lib.hid (fun W => digits_any ⟨#[48, 48, 48, 48, 49]⟩ W (by decide))
  rw [show digN (⟨#[48, 48, 48, 48, 49]⟩ : ByteArray).data.toList = 5 by decide] at HD
  have HX := Lib.hid (fun W => Tryz.strings_CutPrefix ByteArray.empty ⟨#[101]⟩ W)
  rw [show Lib.trimPrefix (ByteArray.empty : ByteArray).data.toList (⟨#[101]⟩ : ByteArray).data.toList = [] by decide, show Lib.hasPrefix (ByteArray.empty : ByteArray).data.toList (⟨#[101]⟩ : ByteArray).data.toList = false by decide] at HX
  have hr2 : (⟨#[48, 48, 48, 48, 49]⟩ : ByteArray).extract 5 5 = ByteArray.empty := by decide
  clear h
  go_enter Tryz.func54, Tryz.ntmps54
  go_wp2_with fail
  refine HC.out.mono ?_
  rintro e w1 ⟨rfl, n, rfl⟩
  go_wp2_with fail
  refine (HN.out _).mono ?_
  rintro e wx ⟨rfl, hxN⟩
  subst hxN
  go_wp2_with fail
  refine (HD.out _).mono ?_
  rintro e wx ⟨rfl, hxD⟩
  subst hxD
  go_wp2_with fail
  refine (HX.out _).mono ?_
  rintro e wx ⟨rfl, hxX⟩
  subst hxX
  go_wp2_with fail
  go_ret
  exact ⟨rfl, ⟨rfl, rfl, rfl, Nat.le_refl _, fun _ _ => rfl⟩⟩
end
end Go.Proofs.YtoonneminimbfaaGreatDoor
