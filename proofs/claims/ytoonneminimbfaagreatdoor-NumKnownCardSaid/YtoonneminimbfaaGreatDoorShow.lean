/- num.Show. -/
import Derived.Test.YtoonneminimbfaaGreatDoorHex
namespace Go.Proofs.YtoonneminimbfaaGreatDoor
open Go.RowKit
set_option linter.unusedVariables false
set_option linter.unusedSimpArgs false

set_option maxRecDepth 1000000 in
theorem uFormat16 (u : Nat) (hu : u < 18446744073709551616) (w : World) (h : w.cell? ⟨12, 15, none⟩ = some (.int .u8 4)) :
    Calls Tryz.prog 90 #[.int .u64 u, .int .i64 16] w fun e w' => e = .returned (.string ⟨(hexV u).toArray⟩) ∧ Below w.heap.size w w' := by
  have H := Lib.hid h
  clear h
  go_enter Tryz.func90, Tryz.ntmps90
  go_wp2_with (go_at_call 108; refine (formatBits16 u hu _ H.out).mono ?_; rintro e w' ⟨rfl, hb⟩)
  go_ret
  exact ⟨rfl, hb⟩
set_option maxRecDepth 1000000 in
theorem formatUint16 (u : Nat) (hu : u < 18446744073709551616) (w : World) (h : w.cell? ⟨12, 15, none⟩ = some (.int .u8 4)) :
    Calls Tryz.prog 65 #[.int .u64 u, .int .i64 16] w fun e w' => e = .returned (.string ⟨(hexV u).toArray⟩) ∧ Below w.heap.size w w' := by
  have H := Lib.hid h
  clear h
  go_enter Tryz.func65, Tryz.ntmps65
  go_wp2_with (go_at_call 90; refine (uFormat16 u hu _ H.out).mono ?_; rintro e w' ⟨rfl, hb⟩)
  go_ret
  exact ⟨rfl, hb⟩

/-- Is it a not-a-number? -/
def nanB (b : Nat) : Bool := FloatKind.f64.format.order b b != some .eq
theorem isNaN_any (b : Nat) (w : World) : Calls Tryz.prog 64 #[.float .f64 b] w fun e w' => e = .returned (.bool (nanB b)) ∧ w = w' := by
  go_enter Tryz.func64, Tryz.ntmps64
  go_wp2
  go_ret
  exact ⟨rfl, rfl⟩

theorem bits_run (b : Nat) (w : World) : (callFunc 17 #[.float .f64 b]).run Tryz.prog w = .ok (.value (.int .u64 b)) w := by
  rw [run_callFunc_extern Tryz.func17 (by kernel_rfl) (by kernel_rfl) (by kernel_rfl) (e := Extern.MathFloatBits.float64bits) (by kernel_rfl)]
  rfl
theorem frombits_run (n : Nat) (w : World) : (callFunc 22 #[.int .u64 n]).run Tryz.prog w = .ok (.value (.float .f64 n)) w := by
  rw [run_callFunc_extern Tryz.func22 (by kernel_rfl) (by kernel_rfl) (by kernel_rfl) (e := Extern.MathFloatBits.float64frombits) (by kernel_rfl)]
  rfl

theorem repeat_zero : ∀ c, Lib.repeatL [48] c = List.replicate c 48 := by
  intro c
  induction c with
  | zero => rfl
  | succ c ih => rw [Lib.repeatL, ih]; rfl

/-- The digits of sixteen places. -/
def wide (u : Nat) : ByteArray := ⟨(List.replicate (16 - (hexV u).length) 48 ++ hexV u).toArray⟩
theorem wide_is {u : Nat} {t : ByteArray} (ht : t = ⟨(hexV u).toArray⟩) : (⟨(Lib.repeatL [48] (16 - t.size)).toArray⟩ : ByteArray) ++ t = wide u := by
  have hs : t.size = (hexV u).length := by rw [ht]; rfl
  rw [repeat_zero, hs, ht]
  apply ByteArray.ext
  simp [wide]

theorem Below.at_ {w w' : World} (hb : Below w.heap.size w w') {b o : Nat} {v : Value} (h : w.cell? ⟨b, o, none⟩ = some v) : w'.cell? ⟨b, o, none⟩ = some v :=
  (hb.cell (p := ⟨b, o, none⟩) (World.block_lt_of_cell? _ _ h)).trans h

set_option maxRecDepth 1000000 in
set_option maxHeartbeats 1600000 in
theorem show_any (b : Nat) (hb : b < 18446744073709551616) (w : World) (h : w.cell? ⟨12, 15, none⟩ = some (.int .u8 4)) (hn : nanB b = false) :
    Calls Tryz.prog 21 #[.float .f64 b] w fun e w' => e = .returned (.string (wide b)) ∧ Below w.heap.size w w' := by
  have H := Lib.hid h
  have HN := Lib.hid (isNaN_any b w)
  rw [hn] at HN
  have hb17 := bits_run
  have HF := Lib.hid (formatUint16 b hb w h)
  have hlen : (⟨(hexV b).toArray⟩ : ByteArray).size ≤ 16 := hexD_len 16 b
  obtain ⟨t, ht⟩ : ∃ t : ByteArray, t = ⟨(hexV b).toArray⟩ := ⟨_, rfl⟩
  rw [← ht] at HF hlen
  have HT := Lib.hid ht
  have hcat : ¬ 9223372036854775807 < (Lib.repeatL [48] (16 - t.size)).length + t.size := by rw [repeat_zero]; simp; omega
  have e16 : (16 : Int) - (t.size : Int) = ((16 - t.size : Nat) : Int) := by omega
  clear h hn ht
  go_enter Tryz.func21, Tryz.ntmps21
  go_wp2_with (first | (go_at_call 64; refine HN.out.mono ?_; rintro e w' ⟨rfl, rfl⟩) | (go_at_call 65; go_loud (refine HF.out.mono ?_); rintro e w3 ⟨rfl, hb1⟩) | (go_at_call 66; go_loud (refine (Tryz.strings_Repeat ⟨#[48]⟩ (16 - t.size) _ (by omega) (by show 1 * (16 - t.size) ≤ 140737488355328; omega)).mono ?_); rintro e w2 ⟨rfl, hb2⟩))
  go_ret
  exact ⟨ret_str (wide_is HT.out), hb1.trans (hb2.mono hb1.size)⟩

set_option maxRecDepth 1000000 in
set_option maxHeartbeats 1600000 in
theorem show_nan (b : Nat) (w : World) (h : w.cell? ⟨12, 15, none⟩ = some (.int .u8 4)) (hn : nanB b = true) :
    Calls Tryz.prog 21 #[.float .f64 b] w fun e w' => e = .returned (.string (wide 9221120237041090561)) ∧ Below w.heap.size w w' := by
  have H := Lib.hid h
  have HN := Lib.hid (isNaN_any b w)
  rw [hn] at HN
  have hb17 := bits_run
  have HF := Lib.hid (formatUint16 9221120237041090561 (by decide) w h)
  have hlen : (⟨(hexV 9221120237041090561).toArray⟩ : ByteArray).size ≤ 16 := hexD_len 16 9221120237041090561
  obtain ⟨t, ht⟩ : ∃ t : ByteArray, t = ⟨(hexV 9221120237041090561).toArray⟩ := ⟨_, rfl⟩
  rw [← ht] at HF hlen
  have HT := Lib.hid ht
  have hcat : ¬ 9223372036854775807 < (Lib.repeatL [48] (16 - t.size)).length + t.size := by rw [repeat_zero]; simp; omega
  have e16 : (16 : Int) - (t.size : Int) = ((16 - t.size : Nat) : Int) := by omega
  clear h hn ht
  go_enter Tryz.func21, Tryz.ntmps21
  go_wp2_with (first | (go_at_call 64; refine HN.out.mono ?_; rintro e w' ⟨rfl, rfl⟩) | (go_at_call 65; go_loud (refine HF.out.mono ?_); rintro e w3 ⟨rfl, hb1⟩) | (go_at_call 66; go_loud (refine (Tryz.strings_Repeat ⟨#[48]⟩ (16 - t.size) _ (by omega) (by show 1 * (16 - t.size) ≤ 140737488355328; omega)).mono ?_); rintro e w2 ⟨rfl, hb2⟩))
  go_ret
  exact ⟨ret_str (wide_is HT.out), hb1.trans (hb2.mono hb1.size)⟩
end Go.Proofs.YtoonneminimbfaaGreatDoor
