/- The law NumKnown. -/
import Derived.Test.YtoonneminimbfaaGreatDoorKnLit
import Derived.Test.YtoonneminimbfaaGreatDoorFl
import Derived.Test.YtoonneminimbfaaGreatDoorToI
import Derived.Test.YtoonneminimbfaaGreatDoorOrder0
namespace Go.Proofs.YtoonneminimbfaaGreatDoor
open Go.RowKit
set_option linter.unusedVariables false
set_option linter.unusedSimpArgs false

theorem int_long (s : ByteArray) (hs : s.size ≤ 60) (hn : natV s.data.toList = true) (hp : Lib.parseIntB 64 s.data.toList = .range) (w : World) (hG : Glob2 w) :
    Calls Tryz.prog 13 #[.string s] w fun e w' => e = .returned (.tuple #[.int .i64 0, .int .i64 3]) ∧ Below w.heap.size w w' := by
  have HN := Lib.hid (natural_any s w (by omega))
  rw [hn] at HN
  obtain ⟨ev, h1, h2⟩ := hG.err
  have HP := Lib.hid (show Calls Tryz.prog 52 #[.string s, .int .i64 10, .int .i64 64] w fun e w' => (∃ (v : Int) (N : Nat), e = .returned (.tuple #[.int .i64 v, .iface 114 (.pointer (some ⟨N, 0, none⟩))])) ∧ Below w.heap.size w w' from
    (Tryz.strconv_ParseInt_10_at64_range s (by omega) hp ev w h1 h2).mono fun e w' ⟨N, h3, _, _, h4⟩ => ⟨⟨_, N, h3⟩, h4⟩)
  clear hn hp hG
  go_enter Tryz.func13, Tryz.ntmps13
  go_wp2_with (first | (go_at_call 51; refine HN.out.mono ?_; rintro e w' ⟨rfl, rfl⟩) | (go_at_call 52; refine HP.out.mono ?_; rintro e w1 ⟨⟨v, N, rfl⟩, hw1⟩))
  go_ret2
  exact ⟨rfl, hw1⟩
theorem shown_any (s : ByteArray) (f : Nat) (t : ByteArray) (h : AT s f false) (hs : s.size ≤ 60) (hf : f < 18446744073709551616) (ht : wide (canon f) = t) (w : World) (hG : Glob2 w) (hfl : Calls Tryz.prog 54 #[.string s] w fun e w' => e = .returned (.bool true) ∧ Below w.heap.size w w') :
    Calls Tryz.prog 49 #[.string s] w fun e w' => e = .returned (.string t) ∧ Below w.heap.size w w' := by
  have HF := Lib.hid (numFloat_ok s f h hs w hG hfl)
  have HS := Lib.hid (fun w' (hb : Below w.heap.size w w') => show_all f hf w' (hG.glob.below hb))
  rw [ht] at HS
  clear h hG hfl ht
  go_enter Tryz.func49, Tryz.ntmps49
  go_wp2_with (first | (go_at_call 15; refine HF.out.mono ?_; rintro e w1 ⟨rfl, hb1⟩) | (go_at_call 21; refine (HS.out _ hb1).mono ?_; rintro e w2 ⟨rfl, hb2⟩))
  go_ret
  exact ⟨rfl, below_then hb1 hb2⟩
theorem nan_any (w : World) : Calls Tryz.prog 50 #[] w fun e w' => e = .returned (.float .f64 9221120237041090561) ∧ w = w' := by
  have hq : ∀ w : World, (callFunc 22 #[.int .u64 9221120237041090561]).run Tryz.prog w = .ok (.value (.float .f64 9221120237041090561)) w := frombits_run 9221120237041090561
  go_enter Tryz.func50, Tryz.ntmps50
  go_wp2_with fail
  go_ret
  exact ⟨rfl, rfl⟩
def bads : List ByteArray := [⟨#[49, 46]⟩, ⟨#[46, 53]⟩, ⟨#[49, 101, 53]⟩, ⟨#[48, 49, 46, 53]⟩, ⟨#[49, 46, 53, 101]⟩, ⟨#[49, 46, 53, 101, 43]⟩, ⟨#[49, 46, 53, 120]⟩, ⟨#[]⟩, ⟨#[49, 46, 53, 69, 51]⟩, ⟨#[49, 46, 53, 101, 49, 46, 48]⟩, ⟨#[45, 49, 46, 53]⟩, ⟨#[49, 46, 53, 101, 48, 48, 48, 49]⟩]
theorem bad_any (s : ByteArray) (hs : s ∈ bads) (w : World) (hG : Glob2 w) : Calls Tryz.prog 15 #[.string s] w fun e w' => e = .returned (.tuple #[.float .f64 0, .int .i64 4]) ∧ Below w.heap.size w w' := by
  simp only [bads, List.mem_cons, List.not_mem_nil, or_false] at hs
  rcases hs with rfl | rfl | rfl | rfl | rfl | rfl | rfl | rfl | rfl | rfl | rfl | rfl
  · exact numFloat_not _ (by decide) w (fl_b0 w hG)
  · exact numFloat_not _ (by decide) w (fl_b1 w hG)
  · exact numFloat_not _ (by decide) w (fl_b2 w hG)
  · exact numFloat_not _ (by decide) w (fl_b3 w hG)
  · exact numFloat_not _ (by decide) w (fl_b4 w hG)
  · exact numFloat_not _ (by decide) w (fl_b5 w hG)
  · exact numFloat_not _ (by decide) w (fl_b6 w hG)
  · exact numFloat_not _ (by decide) w (fl_b7 w hG)
  · exact numFloat_not _ (by decide) w (fl_b8 w hG)
  · exact numFloat_not _ (by decide) w (fl_b9 w hG)
  · exact numFloat_not _ (by decide) w (fl_b10 w hG)
  · exact numFloat_not _ (by decide) w (fl_b11 w hG)

set_option maxRecDepth 1000000 in
set_option maxHeartbeats 12800000 in
theorem lawKnown (w : World) (hG : Glob2 w) : Calls Tryz.prog 12 #[] w fun e w' => e = .returned (.bool true) ∧ Below w.heap.size w w' := by
  have HG := Lib.hid hG
  clear hG
  have B0 := Lib.hid (Below.refl w.heap.size w)
  go_enter Tryz.func12, Tryz.ntmps12
  go_wp2_with fail
  refine (int_nat ⟨#[57, 50, 50, 51, 51, 55, 50, 48, 51, 54, 56, 53, 52, 55, 55, 53, 56, 48, 55]⟩ 9223372036854775807 (by decide) (by decide) (by decide) _).mono ?_
  rintro e w1 ⟨rfl, hb⟩
  have B1 := Lib.hid (below_then B0.out hb)
  clear hb
  go_wp2_with fail
  refine (int_long ⟨#[57, 50, 50, 51, 51, 55, 50, 48, 51, 54, 56, 53, 52, 55, 55, 53, 56, 48, 56]⟩ (by decide) (by decide) (by decide) _ (HG.out.below B1.out)).mono ?_
  rintro e w2 ⟨rfl, hb⟩
  have B2 := Lib.hid (below_then B1.out hb)
  clear hb
  go_wp2_with fail
  refine (int_not ⟨#[48, 48, 55]⟩ (by decide) (by decide) _).mono ?_
  rintro e w3 ⟨rfl, hww⟩
  subst hww
  have B3 := B2
  go_wp2_with fail
  refine (int_not ⟨#[]⟩ (by decide) (by decide) _).mono ?_
  rintro e w4 ⟨rfl, hww⟩
  subst hww
  have B4 := B3
  go_wp2_with fail
  refine (numFloat_err _ _ at_g0 (by decide) _ (HG.out.below B4.out) (fl_g0 _ (HG.out.below B4.out))).mono ?_
  rintro e w5 ⟨rfl, hb⟩
  have B5 := Lib.hid (below_then B4.out hb)
  clear hb
  go_wp2_with fail
  generalize hWb : w5.alloc (.cells #[.string ⟨#[49, 46]⟩, .string ⟨#[46, 53]⟩, .string ⟨#[49, 101, 53]⟩, .string ⟨#[48, 49, 46, 53]⟩, .string ⟨#[49, 46, 53, 101]⟩, .string ⟨#[49, 46, 53, 101, 43]⟩, .string ⟨#[49, 46, 53, 120]⟩, .string ⟨#[]⟩, .string ⟨#[49, 46, 53, 69, 51]⟩, .string ⟨#[49, 46, 53, 101, 49, 46, 48]⟩, .string ⟨#[45, 49, 46, 53]⟩, .string ⟨#[49, 46, 53, 101, 48, 48, 48, 49]⟩] 9) = Wb
  have hrow : ∀ k s, bads[k]? = some s → Wb.cell? ⟨w5.heap.size, k, none⟩ = some (.string s) := fun k s hs => by
    rw [← hWb]
    show (w5.alloc (.cells (bads.map Value.string).toArray 9)).cell? ⟨w5.heap.size, k, none⟩ = some (.string s)
    rw [World.cell?_alloc_at _ _ _ _ rfl]
    simp [hs]
  have hbW : Below w5.heap.size w5 Wb := by rw [← hWb]; exact (Below.refl _ _).alloc (Nat.le_refl _) _
  have hsz : w5.heap.size < Wb.heap.size := by rw [← hWb]; simp only [World.alloc, Array.size_push]; omega
  have BW := Lib.hid (below_then B5.out hbW)
  have HR := Lib.hid hrow
  clear hWb hrow hbW
  have hq0 : ∀ w : World, (binOp .neq 27 (.float .f64 0) (.float .f64 0)).run Tryz.prog w = .ok (.bool false) w := fun _ => by kernel_rfl
  go_loopw [12, 13, 14] (fun iv fv ev wr => ∃ k : Nat, k ≤ 12 ∧ iv = .int .i64 k ∧ Below Wb.heap.size Wb wr) (fun iv _ _ _ => 12 - (intOf iv).toNat)
  case atStart => exact ⟨0, by omega, rfl, Below.refl _ _⟩
  case round =>
    obtain ⟨k, hk, rfl, hbr⟩ := hrel
    have BR := Lib.hid hbr
    have BA := Lib.hid (below_then BW.out hbr)
    clear hbr
    by_cases hlt : k < 12
    · obtain ⟨s, hs⟩ : ∃ s, bads[k]? = some s := ⟨bads[k]'(by show k < 12; omega), List.getElem?_eq_getElem _⟩
      have hc := (BR.out.cell (p := ⟨w5.heap.size, k, none⟩) hsz).trans (HR.out k s hs)
      have HB := Lib.hid (bad_any s (List.mem_of_getElem? hs) _ (HG.out.below BA.out))
      have hlt2 : (k : Int) < 12 := by omega
      clear hs
      go_wp2_with fail
      refine HB.out.mono ?_
      rintro e wn ⟨rfl, hbn⟩
      have BN := Lib.hid (below_then BR.out hbn)
      clear hbn
      go_wp2_with fail
      go_roundw
      case rel => exact ⟨k + 1, by omega, by go_num, BN.out⟩
      case measure => simp [intOf]; omega
    · obtain rfl : k = 12 := by omega
      clear hk hlt
      have C0 := BA
      go_wp2_with fail
      refine (shown_any _ _ ⟨#[51, 102, 98, 57, 57, 57, 57, 57, 57, 57, 57, 57, 57, 57, 57, 97]⟩ at_g1 (by decide) (by decide) (by decide +kernel) _ (HG.out.below C0.out) (fl_g1 _ (HG.out.below C0.out))).mono ?_
      rintro e v1 ⟨rfl, hb⟩
      have C1 := Lib.hid (below_then C0.out hb)
      clear hb
      go_wp2_with fail
      refine (shown_any _ _ ⟨#[52, 51, 52, 48, 48, 48, 48, 48, 48, 48, 48, 48, 48, 48, 48, 48]⟩ at_g2 (by decide) (by decide) (by decide +kernel) _ (HG.out.below C1.out) (fl_g2 _ (HG.out.below C1.out))).mono ?_
      rintro e v2 ⟨rfl, hb⟩
      have C2 := Lib.hid (below_then C1.out hb)
      clear hb
      go_wp2_with fail
      refine (shown_any _ _ ⟨#[48, 48, 48, 48, 48, 48, 48, 48, 48, 48, 48, 48, 48, 48, 48, 49]⟩ at_g3 (by decide) (by decide) (by decide +kernel) _ (HG.out.below C2.out) (fl_g3 _ (HG.out.below C2.out))).mono ?_
      rintro e v3 ⟨rfl, hb⟩
      have C3 := Lib.hid (below_then C2.out hb)
      clear hb
      go_wp2_with fail
      refine (shown_any _ _ ⟨#[55, 102, 101, 102, 102, 102, 102, 102, 102, 102, 102, 102, 102, 102, 102, 102]⟩ at_g4 (by decide) (by decide) (by decide +kernel) _ (HG.out.below C3.out) (fl_g4 _ (HG.out.below C3.out))).mono ?_
      rintro e v4 ⟨rfl, hb⟩
      have C4 := Lib.hid (below_then C3.out hb)
      clear hb
      go_wp2_with fail
      refine (shown_any _ _ ⟨#[48, 48, 48, 48, 48, 48, 48, 48, 48, 48, 48, 48, 48, 48, 48, 48]⟩ at_g5 (by decide) (by decide) (by decide +kernel) _ (HG.out.below C4.out) (fl_g5 _ (HG.out.below C4.out))).mono ?_
      rintro e v5 ⟨rfl, hb⟩
      have C5 := Lib.hid (below_then C4.out hb)
      clear hb
      go_wp2_with fail
      refine (shown_any _ _ ⟨#[48, 48, 48, 48, 48, 48, 48, 48, 48, 48, 48, 48, 48, 48, 48, 49]⟩ at_g6 (by decide) (by decide) (by decide +kernel) _ (HG.out.below C5.out) (fl_g6 _ (HG.out.below C5.out))).mono ?_
      rintro e v6 ⟨rfl, hb⟩
      have C6 := Lib.hid (below_then C5.out hb)
      clear hb
      go_wp2_with fail
      refine (shown_any _ _ ⟨#[48, 48, 48, 48, 48, 48, 48, 48, 48, 48, 48, 48, 48, 48, 48, 48]⟩ at_g7 (by decide) (by decide) (by decide +kernel) _ (HG.out.below C6.out) (fl_g7 _ (HG.out.below C6.out))).mono ?_
      rintro e v7 ⟨rfl, hb⟩
      have C7 := Lib.hid (below_then C6.out hb)
      clear hb
      go_wp2_with fail
      refine (shown_any _ _ ⟨#[48, 48, 48, 48, 48, 48, 48, 48, 48, 48, 48, 48, 48, 48, 48, 48]⟩ at_g8 (by decide) (by decide) (by decide +kernel) _ (HG.out.below C7.out) (fl_g8 _ (HG.out.below C7.out))).mono ?_
      rintro e v8 ⟨rfl, hb⟩
      have C8 := Lib.hid (below_then C7.out hb)
      clear hb
      go_wp2_with fail
      refine (shown_any _ _ ⟨#[51, 101, 101, 52, 102, 56, 98, 53, 56, 56, 101, 51, 54, 56, 102, 49]⟩ at_g9 (by decide) (by decide) (by decide +kernel) _ (HG.out.below C8.out) (fl_g9 _ (HG.out.below C8.out))).mono ?_
      rintro e v9 ⟨rfl, hb⟩
      have C9 := Lib.hid (below_then C8.out hb)
      clear hb
      go_wp2_with fail
      refine (shown_any _ _ ⟨#[51, 101, 101, 52, 102, 56, 98, 53, 56, 56, 101, 51, 54, 56, 102, 49]⟩ at_g10 (by decide) (by decide) (by decide +kernel) _ (HG.out.below C9.out) (fl_g10 _ (HG.out.below C9.out))).mono ?_
      rintro e v10 ⟨rfl, hb⟩
      have C10 := Lib.hid (below_then C9.out hb)
      clear hb
      go_wp2_with fail
      refine (fadd_any 4591870180066957722 4596373779694328218 _).mono ?_
      rintro e v11 ⟨⟨r10, rfl, hr⟩, hb⟩
      have C11 := Lib.hid (below_then C10.out hb)
      clear hb
      have HS11 := Lib.hid (show_res hr _ (HG.out.below C11.out).glob)
      rw [show wide (showC (floatBits .add .f64 4591870180066957722 4596373779694328218)) = ⟨#[51, 102, 100, 51, 51, 51, 51, 51, 51, 51, 51, 51, 51, 51, 51, 52]⟩ by decide +kernel] at HS11
      clear hr
      go_wp2_with fail
      refine (HS11.out).mono ?_
      rintro e v12 ⟨rfl, hb⟩
      have C12 := Lib.hid (below_then C11.out hb)
      clear hb
      go_wp2_with fail
      refine (fdiv_any 4607182418800017408 0 _).mono ?_
      rintro e v13 ⟨⟨r12, rfl, hr⟩, hb⟩
      have C13 := Lib.hid (below_then C12.out hb)
      clear hb
      have HS13 := Lib.hid (show_res hr _ (HG.out.below C13.out).glob)
      rw [show wide (showC (floatBits .quo .f64 4607182418800017408 0)) = ⟨#[55, 102, 102, 48, 48, 48, 48, 48, 48, 48, 48, 48, 48, 48, 48, 48]⟩ by decide +kernel] at HS13
      clear hr
      go_wp2_with fail
      refine (HS13.out).mono ?_
      rintro e v14 ⟨rfl, hb⟩
      have C14 := Lib.hid (below_then C13.out hb)
      clear hb
      go_wp2_with fail
      refine (fdiv_any 0 0 _).mono ?_
      rintro e v15 ⟨⟨r14, rfl, hr⟩, hb⟩
      have C15 := Lib.hid (below_then C14.out hb)
      clear hb
      have HS15 := Lib.hid (show_res hr _ (HG.out.below C15.out).glob)
      rw [show wide (showC (floatBits .quo .f64 0 0)) = ⟨#[55, 102, 102, 56, 48, 48, 48, 48, 48, 48, 48, 48, 48, 48, 48, 49]⟩ by decide +kernel] at HS15
      clear hr
      go_wp2_with fail
      refine (HS15.out).mono ?_
      rintro e v16 ⟨rfl, hb⟩
      have C16 := Lib.hid (below_then C15.out hb)
      clear hb
      go_wp2_with fail
      refine (fmul_any 13830554455654793216 0 _).mono ?_
      rintro e v17 ⟨⟨r16, rfl, hr⟩, hb⟩
      have C17 := Lib.hid (below_then C16.out hb)
      clear hb
      have HS17 := Lib.hid (show_res hr _ (HG.out.below C17.out).glob)
      rw [show wide (showC (floatBits .mul .f64 13830554455654793216 0)) = ⟨#[56, 48, 48, 48, 48, 48, 48, 48, 48, 48, 48, 48, 48, 48, 48, 48]⟩ by decide +kernel] at HS17
      clear hr
      go_wp2_with fail
      refine (HS17.out).mono ?_
      rintro e v18 ⟨rfl, hb⟩
      have C18 := Lib.hid (below_then C17.out hb)
      clear hb
      go_wp2_with fail
      refine (div_any (-9223372036854775808) (-1) _ (by decide)).mono ?_
      rintro e v19 ⟨rfl, hww⟩
      subst hww
      have C19 := C18
      rw [show wrap64 ((-9223372036854775808 : Int).tdiv (-1)) = -9223372036854775808 by decide +kernel]
      go_wp2_with fail
      refine (rem_any (-9223372036854775808) (-1) _ (by decide)).mono ?_
      rintro e v20 ⟨rfl, hww⟩
      subst hww
      have C20 := C19
      rw [show (-9223372036854775808 : Int).tmod (-1) = 0 by decide]
      go_wp2_with fail
      refine (rem_any (-7) 2 _ (by decide)).mono ?_
      rintro e v21 ⟨rfl, hww⟩
      subst hww
      have C21 := C20
      rw [show (-7 : Int).tmod 2 = -1 by decide]
      go_wp2_with fail
      refine (div_zero 1 _).mono ?_
      rintro e v22 ⟨rfl, hww⟩
      subst hww
      have C22 := C21
      go_wp2_with fail
      refine (rem_zero 1 _).mono ?_
      rintro e v23 ⟨rfl, hww⟩
      subst hww
      have C23 := C22
      go_wp2_with fail
      refine (toFloat_any 9223372036854775807 (by decide) (by decide) _).mono ?_
      rintro e v24 ⟨rfl, hww⟩
      subst hww
      have C24 := C23
      rw [show tf 9223372036854775807 = 4890909195324358656 by decide +kernel]
      go_wp2_with fail
      refine (show_all 4890909195324358656 (by decide) _ (HG.out.below C24.out).glob).mono ?_
      rintro e v25 ⟨rfl, hb⟩
      have C25 := Lib.hid (below_then C24.out hb)
      clear hb
      rw [show wide (canon 4890909195324358656) = ⟨#[52, 51, 101, 48, 48, 48, 48, 48, 48, 48, 48, 48, 48, 48, 48, 48]⟩ by decide +kernel]
      go_wp2_with fail
      refine (toInt_any 9094988921128908188 (by decide) _).mono ?_
      rintro e v26 ⟨rfl, hww⟩
      subst hww
      have C26 := C25
      rw [show toI 9094988921128908188 = 9223372036854775807 by decide +kernel]
      go_wp2_with fail
      refine (toInt_any 18318360957983683996 (by decide) _).mono ?_
      rintro e v27 ⟨rfl, hww⟩
      subst hww
      have C27 := C26
      rw [show toI 18318360957983683996 = (-9223372036854775808) by decide +kernel]
      go_wp2_with fail
      refine (toInt_any 13834607695319426662 (by decide) _).mono ?_
      rintro e v28 ⟨rfl, hww⟩
      subst hww
      have C28 := C27
      rw [show toI 13834607695319426662 = (-1) by decide +kernel]
      go_wp2_with fail
      refine (nan_any _).mono ?_
      rintro e v29 ⟨rfl, hww⟩
      subst hww
      have C29 := C28
      go_wp2_with fail
      refine (toInt_any 9221120237041090561 (by decide) _).mono ?_
      rintro e v30 ⟨rfl, hww⟩
      subst hww
      have C30 := C29
      rw [show toI 9221120237041090561 = 0 by decide +kernel]
      go_wp2_with fail
      refine (awake_any _ (HG.out.below C30.out).glob).mono ?_
      rintro e v31 ⟨rfl, hb⟩
      have C31 := Lib.hid (below_then C30.out hb)
      clear hb
      go_wp2_with fail
      go_ret
      exact ⟨rfl, C31.out⟩
end Go.Proofs.YtoonneminimbfaaGreatDoor
