/- emendref01.Size, Text, Show. The law NumTexts. -/
import Derived.Test.YtoonneminimbfaaGreatDoorLC
import Derived.Test.YtoonneminimbfaaGreatDoorLA
namespace Go.Proofs.YtoonneminimbfaaGreatDoor
section
open Go.RowKit
set_option linter.unusedVariables false
set_option linter.unusedSimpArgs false

theorem size_neg (a : Int) (h0 : a < 0) (h1 : -9223372036854775808 ≤ a) (w : World) :
    Calls Tryz.prog 63 #[.int .i64 a] w fun e w' => e = .returned (.int .u64 a.natAbs) ∧ w = w' := by
  have e1 : IntKind.u64.wrap (-(IntKind.u64.wrap a)) = (a.natAbs : Int) := by
    simp only [IntKind.wrap, IntKind.bits, IntKind.signed]
    simp
    omega
  have e2 : a < 0 := h0
  go_enter Tryz.func63, Tryz.ntmps63
  go_wp2
  go_ret
  exact ⟨by rw [← e1]; rfl, rfl⟩
theorem size_pos (a : Int) (h0 : ¬ a < 0) (h1 : a ≤ 9223372036854775807) (w : World) :
    Calls Tryz.prog 63 #[.int .i64 a] w fun e w' => e = .returned (.int .u64 a.natAbs) ∧ w = w' := by
  have e1 : IntKind.u64.wrap a = (a.natAbs : Int) := by
    simp only [IntKind.wrap, IntKind.bits, IntKind.signed]
    simp
    omega
  go_enter Tryz.func63, Tryz.ntmps63
  go_wp2
  go_ret
  exact ⟨by rw [← e1]; rfl, rfl⟩
theorem size_any (a : Int) (h0 : -9223372036854775808 ≤ a) (h1 : a ≤ 9223372036854775807) (w : World) :
    Calls Tryz.prog 63 #[.int .i64 a] w fun e w' => e = .returned (.int .u64 a.natAbs) ∧ w = w' := by
  by_cases h : a < 0
  · exact size_neg a h h0 w
  · exact size_pos a h h1 w

theorem one_byte (w : World) (c : UInt8) (z : Int) (hz : z = c.toNat) :
    (convert 77 9 (Value.slice (some { block := w.heap.size, off := 0 }) 1 1)).run Tryz.prog (w.alloc (Obj.cells #[Value.int .u8 z] 5)) = .ok (.string ⟨#[c]⟩) (w.alloc (Obj.cells #[Value.int .u8 z] 5)) := by
  subst hz
  refine run_convert_bytes_back _ 77 9 5 ⟨w.heap.size, 0, none⟩ 1 [c] Tryz.underlying77 Tryz.underlying5 Tryz.underlying9 fun j hj => ?_
  obtain rfl : j = 0 := by simpa using hj
  rw [Addr.add_lit, Nat.zero_add, World.cell?_alloc_at _ _ _ _ rfl]
  rfl
theorem dec_len {s u : Nat} {l : List UInt8} (hs : s < 18446744073709551616) (h : Lib.decDigits s = Lib.decDigits u ++ l) : l.length < 20 := by
  have h1 := Lib.nDigits_le20 s hs
  have h2 := Lib.nDigits_pos u
  have := congrArg List.length h
  rw [List.length_append, Lib.decDigits_length, Lib.decDigits_length] at this
  omega
theorem dec_step {u : Nat} (h : ¬ u < 10) : Lib.decDigits u = Lib.decDigits (u / 10) ++ [UInt8.ofNat (48 + u % 10)] := by rw [Lib.decDigits, dif_neg h]
theorem dec_last {u : Nat} (h : u < 10) : Lib.decDigits u = [UInt8.ofNat (48 + u % 10)] := by rw [Lib.decDigits, dif_pos h, Nat.mod_eq_of_lt h]

theorem itoa_abs (a : Int) (s : Nat) (hs : a.natAbs = s) (h : a < 0) : Lib.itoa a = 45 :: Lib.decDigits s := by
  obtain ⟨u, rfl⟩ : ∃ u : Nat, a = -(u : Int) := ⟨a.natAbs, by omega⟩
  rw [Lib.itoa_neg u (by omega)]; rw [show s = u by omega]
theorem itoa_abs' (a : Int) (s : Nat) (hs : a.natAbs = s) (h : 0 ≤ a) : Lib.itoa a = Lib.decDigits s := by
  obtain ⟨u, rfl⟩ : ∃ u : Nat, a = (u : Int) := ⟨a.natAbs, by omega⟩
  rw [Lib.itoa_nonneg u]; rw [show s = u by omega]
theorem str_cons (d : UInt8) (l : List UInt8) : (⟨#[d]⟩ : ByteArray) ++ ⟨l.toArray⟩ = ⟨(d :: l).toArray⟩ := by
  apply ByteArray.ext; simp

set_option maxRecDepth 100000 in
set_option maxHeartbeats 1600000 in
theorem refText_any (a : Int) (h0 : -9223372036854775808 ≤ a) (h1 : a ≤ 9223372036854775807) (w : World) :
    Calls Tryz.prog 20 #[.int .i64 a] w fun e w' => e = .returned (.string ⟨(Lib.itoa a).toArray⟩) ∧ Below w.heap.size w w' := by
  have HS := Lib.hid (size_any a h0 h1 w)
  obtain ⟨s, hs⟩ : ∃ s, a.natAbs = s := ⟨_, rfl⟩
  rw [hs] at HS
  go_enter Tryz.func20, Tryz.ntmps20
  go_wp2_with (go_at_call 63; refine HS.out.mono ?_; rintro e w' ⟨rfl, rfl⟩)
  go_loopw [3, 4] (fun n t wr => ∃ (u : Nat) (l : List UInt8), u < 18446744073709551616 ∧ n = .int .u64 u ∧ t = .string ⟨l.toArray⟩ ∧ Lib.decDigits s = Lib.decDigits u ++ l ∧ Below w.heap.size w wr) (fun n _ _ => (intOf n).toNat)
  case atStart => exact ⟨s, [], by omega, rfl, rfl, by simp, Below.refl _ _⟩
  case round =>
    obtain ⟨u, l, hu, rfl, rfl, hl, hb⟩ := hrel
    have HC := one_byte wr (UInt8.ofNat (48 + u % 10)) (48 + (u : Int) % 10) (by rw [(digit_of (u % 10) (by omega)).2]; omega)
    have hlen := dec_len (by omega) hl
    have HL := Lib.hid hl
    have HD := Lib.hid (@dec_step u)
    have HD2 := Lib.hid (@dec_last u)
    clear hl
    generalize UInt8.ofNat (48 + u % 10) = d at *
    have h63 : ¬ 9223372036854775807 < (⟨#[d]⟩ : ByteArray).size + (⟨l.toArray⟩ : ByteArray).size := by simp [ByteArray.size]; omega
    go_wp2_with fail
    · have hx : ((u : Int) / 10 == 0) = true := by assumption
      have hu10 : u < 10 := by have hx' : (u : Int) / 10 = 0 := by simpa only [beq_iff_eq] using hx
                               omega
      have hn' : a < 0 := by omega
      go_ret
      refine ⟨?_, hb.alloc hb.size _⟩
      rw [itoa_abs a s hs hn', HL.out, HD2.out hu10, str_cons, str_cons]
      rfl
    · have hx : ((u : Int) / 10 == 0) = true := by assumption
      have hu10 : u < 10 := by have hx' : (u : Int) / 10 = 0 := by simpa only [beq_iff_eq] using hx
                               omega
      have hn' : 0 ≤ a := by omega
      go_ret
      refine ⟨?_, hb.alloc hb.size _⟩
      rw [itoa_abs' a s hs hn', HL.out, HD2.out hu10, str_cons]
      rfl
    · rename_i hx
      have hu10 : ¬ u < 10 := by simp at hx; omega
      go_roundw
      case rel => exact ⟨u / 10, d :: l, by omega, by go_num, by rw [str_cons], by rw [HL.out, HD.out hu10, List.append_assoc]; rfl, hb.alloc hb.size _⟩
      case measure => simp [intOf]; omega

/-! ### Show -/
theorem refNan_any (b : Nat) (hb : b < 18446744073709551616) (w : World) : Calls Tryz.prog 67 #[.int .u64 b] w fun e w' => e = .returned (.bool (decide (b % 9223372036854775808 > 9218868437227405312))) ∧ w = w' := by
  have e1 : ((b : Int) % 9223372036854775808 > 9218868437227405312) = (b % 9223372036854775808 > 9218868437227405312) := by apply propext; omega
  go_enter Tryz.func67, Tryz.ntmps67
  go_wp2
  go_ret
  exact ⟨by apply ret_bool; simp, rfl⟩

theorem order_self (d : Ieee.Datum) : d.order d = if d.isNaN then none else some .eq := by
  cases d with
  | nan s t => rfl
  | infinity s => cases s <;> rfl
  | number s m i =>
    simp only [Ieee.Datum.order, Ieee.Datum.isNaN, Std.ReflCmp.compare_self]
    rfl
theorem read_nan (b : Nat) : (Ieee.double.read b).isNaN = decide (b % 9223372036854775808 > 9218868437227405312) := by
  have h1 : Ieee.double.signWeight = 9223372036854775808 := by decide
  have h2 : Ieee.double.infRung = 9218868437227405312 := by decide
  have h3 : Ieee.double.binade = 4503599627370496 := by decide
  unfold Ieee.Format.read
  simp only [h1, h2, h3]
  split
  · simp [Ieee.Datum.isNaN]; omega
  · split
    · simp [Ieee.Datum.isNaN]; omega
    · split
      · simp [Ieee.Datum.isNaN]; omega
      · simp [Ieee.Datum.isNaN]; omega
theorem nanB_is (b : Nat) : nanB b = decide (b % 9223372036854775808 > 9218868437227405312) := by
  unfold nanB Ieee.Format.order
  rw [order_self, show FloatKind.f64.format = Ieee.double from rfl, read_nan]
  by_cases h : b % 9223372036854775808 > 9218868437227405312 <;> simp [h]

/-- The n lowest digits to the base 16. -/
def lowN : Nat → Nat → List UInt8
  | 0, _ => []
  | n + 1, u => lowN n (u / 16) ++ [hexc (u % 16)]
theorem lowN_zero (n : Nat) : lowN n 0 = List.replicate n 48 := by
  induction n with
  | zero => rfl
  | succ n ih => rw [lowN, ih, List.replicate_succ']; rfl
theorem lowN_len (n u : Nat) : (lowN n u).length = n := by
  induction n generalizing u with
  | zero => rfl
  | succ n ih => rw [lowN, List.length_append, ih]; rfl
theorem wide_low : ∀ (f n u : Nat), u < 16 ^ f → 0 < f → f ≤ n → List.replicate (n - (hexD f u).length) 48 ++ hexD f u = lowN n u := by
  intro f
  induction f with
  | zero => intro n u _ h; omega
  | succ f ih =>
    intro n u hu h0 hn
    obtain ⟨m, rfl⟩ : ∃ m, n = m + 1 := ⟨n - 1, by omega⟩
    rw [hexD, lowN]
    split
    · rename_i h
      rw [show u / 16 = 0 by omega, lowN_zero, Nat.mod_eq_of_lt h]; simp
    · rename_i h
      have hf : 0 < f := by
        rcases Nat.eq_zero_or_pos f with h1 | h1
        · subst h1; simp at hu; omega
        · exact h1
      have h2 := ih m (u / 16) (by rw [Nat.div_lt_iff_lt_mul (by omega)]; rw [Nat.pow_succ] at hu; omega) hf (by omega)
      rw [← h2, List.length_append, List.append_assoc]
      rw [show m + 1 - ((hexD f (u / 16)).length + [hexc (u % 16)].length) = m - (hexD f (u / 16)).length by simp]
theorem lowN_front (n u : Nat) : lowN (n + 1) u = hexc (u / 16 ^ n % 16) :: lowN n u := by
  induction n generalizing u with
  | zero => simp [lowN]
  | succ n ih =>
    rw [lowN, ih (u / 16), lowN, Nat.div_div_eq_div_mul, Nat.pow_succ, Nat.mul_comm 16]
    rfl
theorem wide_is_low (u : Nat) (h : u < 18446744073709551616) : wide u = ⟨(lowN 16 u).toArray⟩ := by
  unfold wide hexV
  rw [wide_low 16 16 u (by simpa using h) (by omega) (by omega)]

def digS : ByteArray := ⟨#[48, 49, 50, 51, 52, 53, 54, 55, 56, 57, 97, 98, 99, 100, 101, 102]⟩
theorem hexc_at (n : Nat) (h : n < (⟨#[48, 49, 50, 51, 52, 53, 54, 55, 56, 57, 97, 98, 99, 100, 101, 102]⟩ : ByteArray).size) : (⟨#[48, 49, 50, 51, 52, 53, 54, 55, 56, 57, 97, 98, 99, 100, 101, 102]⟩ : ByteArray)[n]'h = hexc n := by
  have : ∀ n : Fin 16, ∀ h : n.val < (⟨#[48, 49, 50, 51, 52, 53, 54, 55, 56, 57, 97, 98, 99, 100, 101, 102]⟩ : ByteArray).size, (⟨#[48, 49, 50, 51, 52, 53, 54, 55, 56, 57, 97, 98, 99, 100, 101, 102]⟩ : ByteArray)[n.val]'h = hexc n.val := by decide
  exact this ⟨n, by simpa [ByteArray.size] using h⟩ h
set_option maxRecDepth 100000 in
set_option maxHeartbeats 1600000 in
theorem refShow_nan (c b : Nat) (hc : c < 18446744073709551616) (hb : b < 18446744073709551616) (w : World) (hcC : c = 9221120237041090561) (hn : b % 9223372036854775808 > 9218868437227405312) :
    Calls Tryz.prog 23 #[.int .u64 b] w fun e w' => e = .returned (.string (wide c)) ∧ Below w.heap.size w w' := by
  have HN := Lib.hid (refNan_any b hb w)
  rw [decide_eq_true hn] at HN
  have HW := Lib.hid (wide_is_low c hc)
  clear hn
  go_enter Tryz.func23, Tryz.ntmps23
  go_wp2_with (go_at_call 67; refine HN.out.mono ?_; rintro e w' ⟨rfl, rfl⟩)
  go_loopw [0, 4, 5] (fun x t n wr => ∃ (k : Nat) (l : List UInt8), k ≤ 16 ∧ x = .int .u64 (c / 16 ^ k : Nat) ∧ t = .string ⟨l.toArray⟩ ∧ n = .int .i64 k ∧ l = lowN k c ∧ Below w.heap.size w wr) (fun _ _ n _ => 16 - (intOf n).toNat)
  case atStart => exact ⟨0, [], by omega, by rw [hcC]; rfl, rfl, rfl, rfl, Below.refl _ _⟩
  case round =>
    obtain ⟨k, l, hk, rfl, rfl, rfl, hl, hbe⟩ := hrel
    have hll : l.length = k := by rw [hl]; exact lowN_len k c
    have HL := Lib.hid hl
    have HX := Lib.hid (show c / 16 ^ (k + 1) = c / 16 ^ k / 16 by rw [Nat.pow_succ, Nat.div_div_eq_div_mul])
    have HF := Lib.hid (lowN_front k c)
    have hx : c / 16 ^ k < 18446744073709551616 := Nat.lt_of_le_of_lt (Nat.div_le_self _ _) hc
    clear hl
    generalize c / 16 ^ k = x at *
    by_cases hlt : k < 16
    · have HD := hexc_at (x % 16)
      have HC := one_byte wr (hexc (x % 16)) _ rfl
      generalize hexc (x % 16) = d at *
      have h63 : ¬ 9223372036854775807 < (⟨#[d]⟩ : ByteArray).size + (⟨l.toArray⟩ : ByteArray).size := by simp [ByteArray.size]; omega
      go_wp2_with fail
      go_roundw
      case rel => exact ⟨k + 1, d :: l, by omega, by rw [HX.out]; go_num, by rw [str_cons], by go_num, by rw [HF.out, HL.out], hbe.alloc hbe.size _⟩
      case measure => simp [intOf]; omega
    · obtain rfl : k = 16 := by omega
      go_wp2_with fail
      go_ret
      exact ⟨by rw [HW.out, HL.out]; rfl, hbe⟩

set_option maxRecDepth 100000 in
set_option maxHeartbeats 1600000 in
theorem refShow_num (c : Nat) (hc : c < 18446744073709551616) (w : World) (hn : ¬ c % 9223372036854775808 > 9218868437227405312) :
    Calls Tryz.prog 23 #[.int .u64 c] w fun e w' => e = .returned (.string (wide c)) ∧ Below w.heap.size w w' := by
  have HN := Lib.hid (refNan_any c hc w)
  rw [decide_eq_false hn] at HN
  have HW := Lib.hid (wide_is_low c hc)
  clear hn
  go_enter Tryz.func23, Tryz.ntmps23
  go_wp2_with (go_at_call 67; refine HN.out.mono ?_; rintro e w' ⟨rfl, rfl⟩)
  go_loopw [0, 4, 5] (fun x t n wr => ∃ (k : Nat) (l : List UInt8), k ≤ 16 ∧ x = .int .u64 (c / 16 ^ k : Nat) ∧ t = .string ⟨l.toArray⟩ ∧ n = .int .i64 k ∧ l = lowN k c ∧ Below w.heap.size w wr) (fun _ _ n _ => 16 - (intOf n).toNat)
  case atStart => exact ⟨0, [], by omega, by rw [Nat.pow_zero, Nat.div_one], rfl, rfl, rfl, Below.refl _ _⟩
  case round =>
    obtain ⟨k, l, hk, rfl, rfl, rfl, hl, hbe⟩ := hrel
    have hll : l.length = k := by rw [hl]; exact lowN_len k c
    have HL := Lib.hid hl
    have HX := Lib.hid (show c / 16 ^ (k + 1) = c / 16 ^ k / 16 by rw [Nat.pow_succ, Nat.div_div_eq_div_mul])
    have HF := Lib.hid (lowN_front k c)
    have hx : c / 16 ^ k < 18446744073709551616 := Nat.lt_of_le_of_lt (Nat.div_le_self _ _) hc
    clear hl
    generalize c / 16 ^ k = x at *
    by_cases hlt : k < 16
    · have HD := hexc_at (x % 16)
      have HC := one_byte wr (hexc (x % 16)) _ rfl
      generalize hexc (x % 16) = d at *
      have h63 : ¬ 9223372036854775807 < (⟨#[d]⟩ : ByteArray).size + (⟨l.toArray⟩ : ByteArray).size := by simp [ByteArray.size]; omega
      go_wp2_with fail
      go_roundw
      case rel => exact ⟨k + 1, d :: l, by omega, by rw [HX.out]; go_num, by rw [str_cons], by go_num, by rw [HF.out, HL.out], hbe.alloc hbe.size _⟩
      case measure => simp [intOf]; omega
    · obtain rfl : k = 16 := by omega
      go_wp2_with fail
      go_ret
      exact ⟨by rw [HW.out, HL.out]; rfl, hbe⟩
end

section
open Go.RowKit
set_option linter.unusedVariables false
set_option linter.unusedSimpArgs false

/-- A call made later: what was there at w is still there. -/
theorem later {f : FuncId} {args : Array Value} {w w' : World} {p : Ending → Prop} (hb : Below w.heap.size w w') (h : Calls Tryz.prog f args w' fun e w'' => p e ∧ Below w'.heap.size w' w'') :
    Calls Tryz.prog f args w' fun e w'' => p e ∧ Below w.heap.size w w'' :=
  h.mono fun e w'' ⟨he, hb'⟩ => ⟨he, hb.trans (hb'.mono hb.size)⟩

def canon (b : Nat) : Nat := if nanB b then 9221120237041090561 else b
theorem canon_lt (b : Nat) (hb : b < 18446744073709551616) : canon b < 18446744073709551616 := by unfold canon; split <;> omega
theorem show_all (b : Nat) (hb : b < 18446744073709551616) (w : World) (h : Glob w) :
    Calls Tryz.prog 21 #[.float .f64 b] w fun e w' => e = .returned (.string (wide (canon b))) ∧ Below w.heap.size w w' := by
  unfold canon
  cases hn : nanB b with
  | false => exact show_any b hb w h.trail hn
  | true => exact show_nan b w h.trail hn
theorem refShow_all (b : Nat) (hb : b < 18446744073709551616) (w : World) :
    Calls Tryz.prog 23 #[.int .u64 b] w fun e w' => e = .returned (.string (wide (canon b))) ∧ Below w.heap.size w w' := by
  unfold canon
  have hn := nanB_is b
  by_cases h : b % 9223372036854775808 > 9218868437227405312
  · rw [hn, decide_eq_true h]; exact refShow_nan _ b (by rw [if_pos rfl]; decide) hb w (if_pos rfl) h
  · rw [hn, decide_eq_false h]; exact refShow_num b hb w h

set_option maxRecDepth 1000000 in
set_option maxHeartbeats 3200000 in
theorem lawTexts (a : Int) (b : Nat) (w : World) (ha0 : -9223372036854775808 ≤ a) (ha1 : a ≤ 9223372036854775807) (hb : b < 18446744073709551616) (h : Glob w) :
    Calls Tryz.prog 4 #[.int .i64 a, .int .u64 b] w fun e w' => e = .returned (.bool true) ∧ Below w.heap.size w w' := by
  have HT := Lib.hid (text_any a ha0 ha1 w h)
  have HR := Lib.hid (fun w' hb => later (w := w) hb (refText_any a ha0 ha1 w'))
  have HS := Lib.hid (fun w' hb' => later (w := w) hb' (show_all b hb w' (h.below hb')))
  have HQ := Lib.hid (fun w' hb' => later (w := w) hb' (refShow_all b hb w'))
  have HW := Lib.hid (fun w' hb' => glob_awake w w' h hb')
  have hf := frombits_run b
  generalize wide (canon b) = s at *
  generalize (Lib.itoa a).toArray = t at *
  clear h
  go_enter Tryz.func4, Tryz.ntmps4
  go_wp2_with (first | (go_at_call 19; refine HT.out.mono ?_; rintro e w1 ⟨rfl, hb1⟩) | (go_at_call 20; refine (HR.out _ hb1).mono ?_; rintro e w2 ⟨rfl, hb2⟩) | (go_at_call 21; refine (HS.out _ hb2).mono ?_; rintro e w3 ⟨rfl, hb3⟩) | (go_at_call 23; refine (HQ.out _ hb3).mono ?_; rintro e w4 ⟨rfl, hb4⟩) | (go_at_call 18; refine (HW.out _ hb4).mono ?_; rintro e w5 ⟨rfl, hb5⟩))
  go_ret
  exact ⟨rfl, hb5⟩
end
end Go.Proofs.YtoonneminimbfaaGreatDoor
