/- num's floats: FAdd, FSub, FMul, FDiv, FNeg, FEqual: the model's own exact arithmetic, or some not-a-number. -/
import Derived.Test.YtoonneminimbfaaGreatDoorTexts
import Derived.Laws.FloatArith
namespace Go.Proofs.YtoonneminimbfaaGreatDoor
open Go.RowKit
set_option linter.unusedVariables false
set_option linter.unusedSimpArgs false

/-- What an operation may hand back: the word, or any not-a-number. -/
def FRes (o : Option Nat) (r : Nat) : Prop := r < 18446744073709551616 ∧ match o with | some x => r = x | none => nanB r = true

def nanOf (x y : Nat) (w : World) : Nat := (Question.nanBits .f64 x y).cut (w.tape w.drawn (.nanBits .f64 x y))
theorem nanOf_eq (x y : Nat) (w : World) : ∃ t : Nat, nanOf x y w = t % 2 * 9223372036854775808 + 9218868437227405312 + 1 + t / 2 % 4503599627370495 := ⟨w.tape w.drawn (.nanBits .f64 x y), rfl⟩
theorem nanOf_lt (x y : Nat) (w : World) : nanOf x y w < 18446744073709551616 := by
  obtain ⟨t, h⟩ := nanOf_eq x y w
  rw [h]; omega
theorem nanOf_nan (x y : Nat) (w : World) : nanB (nanOf x y w) = true := by
  obtain ⟨t, h⟩ := nanOf_eq x y w
  rw [nanB_is, h, decide_eq_true_eq]
  have hm : t / 2 % 4503599627370495 < 4503599627370495 := Nat.mod_lt _ (by decide)
  generalize t / 2 % 4503599627370495 = m at hm
  rcases Nat.mod_two_eq_zero_or_one t with h0 | h0 <;> rw [h0] <;> omega
theorem run_float_none {P : Program} (w : World) (op : BinOp) (t : TypeId) (x y : Nat) (hop : op = .add ∨ op = .sub ∨ op = .mul ∨ op = .quo) (h : floatBits op .f64 x y = none) :
    (binOp op t (.float .f64 x) (.float .f64 y)).run P w = .ok (.float .f64 (nanOf x y w)) w.drew := by
  unfold floatBits at h
  rcases hop with rfl | rfl | rfl | rfl <;> simp only at h
  all_goals
    simp [binOp, Op.floatArith, h, nanOf, choose, Sem.run, Question.forced, Sem.bind]

theorem below_drew {w w' : World} (h : Below w.heap.size w w') : Below w.heap.size w w'.drew := ⟨h.os, h.tape, h.output, h.size, h.block⟩
theorem bits_lt {op : BinOp} {x y r : Nat} (h : floatBits op .f64 x y = some r) : r < 18446744073709551616 := by
  have := floatBits_wf h
  simpa [Lit.wf] using this

def RetF (o : Option Nat) (e : Ending) : Prop := ∃ r, e = .returned (.float .f64 r) ∧ FRes o r
theorem retF_some {o : Option Nat} {x : Nat} (h : o = some x) (hx : x < 18446744073709551616) : RetF o (.returned (.float .f64 x)) := ⟨x, rfl, hx, by rw [h]⟩
theorem retF_none {o : Option Nat} {a b : Nat} {w : World} (h : o = none) : RetF o (.returned (.float .f64 (nanOf a b w))) := ⟨_, rfl, nanOf_lt a b w, by rw [h]; exact nanOf_nan a b w⟩

theorem fboth_add (a b : Nat) (w : World) : Calls Tryz.prog 72 #[.int .u8 43, .float .f64 a, .float .f64 b] w fun e w' => RetF (floatBits .add .f64 a b) e ∧ Below w.heap.size w w' := by
  cases h : floatBits .add .f64 a b with
  | some r =>
    have hq : ∀ w : World, (binOp .add 27 (.float .f64 a) (.float .f64 b)).run Tryz.prog w = .ok (.float .f64 r) w := fun w => run_float_arith w .add 27 .f64 _ _ _ h
    have hl := bits_lt h
    go_enter Tryz.func72, Tryz.ntmps72
    go_wp2_with fail
    go_ret
    exact ⟨retF_some rfl hl, Below.refl _ _⟩
  | none =>
    have hq : ∀ w : World, (binOp .add 27 (.float .f64 a) (.float .f64 b)).run Tryz.prog w = .ok (.float .f64 (nanOf a b w)) w.drew := fun w => run_float_none w .add 27 _ _ (by simp) h
    go_enter Tryz.func72, Tryz.ntmps72
    go_wp2_with fail
    go_ret
    exact ⟨retF_none rfl, below_drew (Below.refl _ _)⟩
theorem fboth_sub (a b : Nat) (w : World) : Calls Tryz.prog 72 #[.int .u8 45, .float .f64 a, .float .f64 b] w fun e w' => RetF (floatBits .sub .f64 a b) e ∧ Below w.heap.size w w' := by
  cases h : floatBits .sub .f64 a b with
  | some r =>
    have hq : ∀ w : World, (binOp .sub 27 (.float .f64 a) (.float .f64 b)).run Tryz.prog w = .ok (.float .f64 r) w := fun w => run_float_arith w .sub 27 .f64 _ _ _ h
    have hl := bits_lt h
    go_enter Tryz.func72, Tryz.ntmps72
    go_wp2_with fail
    go_ret
    exact ⟨retF_some rfl hl, Below.refl _ _⟩
  | none =>
    have hq : ∀ w : World, (binOp .sub 27 (.float .f64 a) (.float .f64 b)).run Tryz.prog w = .ok (.float .f64 (nanOf a b w)) w.drew := fun w => run_float_none w .sub 27 _ _ (by simp) h
    go_enter Tryz.func72, Tryz.ntmps72
    go_wp2_with fail
    go_ret
    exact ⟨retF_none rfl, below_drew (Below.refl _ _)⟩
theorem fboth_mul (a b : Nat) (w : World) : Calls Tryz.prog 72 #[.int .u8 42, .float .f64 a, .float .f64 b] w fun e w' => RetF (floatBits .mul .f64 a b) e ∧ Below w.heap.size w w' := by
  cases h : floatBits .mul .f64 a b with
  | some r =>
    have hq : ∀ w : World, (binOp .mul 27 (.float .f64 a) (.float .f64 b)).run Tryz.prog w = .ok (.float .f64 r) w := fun w => run_float_arith w .mul 27 .f64 _ _ _ h
    have hl := bits_lt h
    go_enter Tryz.func72, Tryz.ntmps72
    go_wp2_with fail
    go_ret
    exact ⟨retF_some rfl hl, Below.refl _ _⟩
  | none =>
    have hq : ∀ w : World, (binOp .mul 27 (.float .f64 a) (.float .f64 b)).run Tryz.prog w = .ok (.float .f64 (nanOf a b w)) w.drew := fun w => run_float_none w .mul 27 _ _ (by simp) h
    go_enter Tryz.func72, Tryz.ntmps72
    go_wp2_with fail
    go_ret
    exact ⟨retF_none rfl, below_drew (Below.refl _ _)⟩

theorem fadd_any (a b : Nat) (w : World) : Calls Tryz.prog 35 #[.float .f64 a, .float .f64 b] w fun e w' => RetF (floatBits .add .f64 a b) e ∧ Below w.heap.size w w' := by
  have H := Lib.hid (fboth_add a b w)
  go_enter Tryz.func35, Tryz.ntmps35
  go_wp2_with (go_at_call 72; refine H.out.mono ?_; rintro e w' ⟨⟨r, rfl, hr⟩, hb⟩)
  go_ret
  exact ⟨⟨r, rfl, hr⟩, hb⟩

theorem fsub_any (a b : Nat) (w : World) : Calls Tryz.prog 34 #[.float .f64 a, .float .f64 b] w fun e w' => RetF (floatBits .sub .f64 a b) e ∧ Below w.heap.size w w' := by
  have H := Lib.hid (fboth_sub a b w)
  go_enter Tryz.func34, Tryz.ntmps34
  go_wp2_with (go_at_call 72; refine H.out.mono ?_; rintro e w' ⟨⟨r, rfl, hr⟩, hb⟩)
  go_ret
  exact ⟨⟨r, rfl, hr⟩, hb⟩

theorem fmul_any (a b : Nat) (w : World) : Calls Tryz.prog 36 #[.float .f64 a, .float .f64 b] w fun e w' => RetF (floatBits .mul .f64 a b) e ∧ Below w.heap.size w w' := by
  have H := Lib.hid (fboth_mul a b w)
  go_enter Tryz.func36, Tryz.ntmps36
  go_wp2_with (go_at_call 72; refine H.out.mono ?_; rintro e w' ⟨⟨r, rfl, hr⟩, hb⟩)
  go_ret
  exact ⟨⟨r, rfl, hr⟩, hb⟩
theorem fdiv_any (a b : Nat) (w : World) : Calls Tryz.prog 41 #[.float .f64 a, .float .f64 b] w fun e w' => RetF (floatBits .quo .f64 a b) e ∧ Below w.heap.size w w' := by
  cases h : floatBits .quo .f64 a b with
  | some r =>
    have hq : ∀ w : World, (binOp .quo 27 (.float .f64 a) (.float .f64 b)).run Tryz.prog w = .ok (.float .f64 r) w := fun w => run_float_arith w .quo 27 .f64 _ _ _ h
    have hl := bits_lt h
    go_enter Tryz.func41, Tryz.ntmps41
    go_wp2_with fail
    go_ret
    exact ⟨retF_some rfl hl, Below.refl _ _⟩
  | none =>
    have hq : ∀ w : World, (binOp .quo 27 (.float .f64 a) (.float .f64 b)).run Tryz.prog w = .ok (.float .f64 (nanOf a b w)) w.drew := fun w => run_float_none w .quo 27 _ _ (by simp) h
    go_enter Tryz.func41, Tryz.ntmps41
    go_wp2_with fail
    go_ret
    exact ⟨retF_none rfl, below_drew (Below.refl _ _)⟩

def fnegV (b : Nat) : Nat := b ^^^ 9223372036854775808
theorem fneg_any (a : Nat) (w : World) : Calls Tryz.prog 37 #[.float .f64 a] w fun e w' => e = .returned (.float .f64 (fnegV a)) ∧ w = w' := by
  have hq : ∀ w : World, (Op.unary .neg (.float .f64 a)).run Tryz.prog w = .ok (.float .f64 (fnegV a)) w := fun w => rfl
  go_enter Tryz.func37, Tryz.ntmps37
  go_wp2_with fail
  go_ret
  exact ⟨rfl, rfl⟩
theorem fneg_fneg (a : Nat) : fnegV (fnegV a) = a := by unfold fnegV; rw [Nat.xor_assoc, Nat.xor_self, Nat.xor_zero]
theorem fneg_lt (a : Nat) (h : a < 18446744073709551616) : fnegV a < 18446744073709551616 := Nat.xor_lt_two_pow (n := 64) h (by decide)

def feqB (a b : Nat) : Bool := Ieee.double.order a b == some .eq
theorem fequal_any (a b : Nat) (w : World) : Calls Tryz.prog 33 #[.float .f64 a, .float .f64 b] w fun e w' => e = .returned (.bool (feqB a b)) ∧ w = w' := by
  go_enter Tryz.func33, Tryz.ntmps33
  go_wp2
  go_ret
  exact ⟨rfl, rfl⟩

/-- How a result is shown. -/
def showC (o : Option Nat) : Nat := match o with | some x => canon x | none => 9221120237041090561
theorem canon_res {o : Option Nat} {r : Nat} (h : FRes o r) : canon r = showC o := by
  obtain ⟨_, h⟩ := h
  cases o with
  | some x => simp only at h; rw [h]; rfl
  | none => simp only at h; unfold canon showC; rw [h]; rfl
theorem show_res {o : Option Nat} {r : Nat} (h : FRes o r) (w : World) (hG : Glob w) :
    Calls Tryz.prog 21 #[.float .f64 r] w fun e w' => e = .returned (.string (wide (showC o))) ∧ Below w.heap.size w w' := by
  rw [← canon_res h]; exact show_all r h.1 w hG

/-! ### Shown alike, alike -/
theorem hexc_inj : ∀ a b : Fin 16, hexc a.val = hexc b.val → a = b := by decide
theorem lowN_inj : ∀ (n a b : Nat), a < 16 ^ n → b < 16 ^ n → lowN n a = lowN n b → a = b := by
  intro n
  induction n with
  | zero => intro a b ha hb _; simp at ha hb; omega
  | succ n ih =>
    intro a b ha hb h
    rw [lowN, lowN] at h
    obtain ⟨h1, h2⟩ := List.append_inj h (by rw [lowN_len, lowN_len])
    have e1 := ih (a / 16) (b / 16) (by rw [Nat.div_lt_iff_lt_mul (by omega)]; rw [Nat.pow_succ] at ha; exact ha) (by rw [Nat.div_lt_iff_lt_mul (by omega)]; rw [Nat.pow_succ] at hb; exact hb) h1
    have e2 := hexc_inj ⟨a % 16, by omega⟩ ⟨b % 16, by omega⟩ (by simpa using h2)
    have e3 : a % 16 = b % 16 := by simpa using e2
    omega
theorem wide_inj {a b : Nat} (ha : a < 18446744073709551616) (hb : b < 18446744073709551616) (h : wide a = wide b) : a = b := by
  rw [wide_is_low a ha, wide_is_low b hb] at h
  refine lowN_inj 16 a b ha hb ?_
  have := congrArg (fun s : ByteArray => s.data.toList) h
  simpa using this
theorem wide_nan : wide 9221120237041090561 = ⟨#[55, 102, 102, 56, 48, 48, 48, 48, 48, 48, 48, 48, 48, 48, 48, 49]⟩ := by decide +kernel
theorem wide_zero : wide 0 = ⟨#[48, 48, 48, 48, 48, 48, 48, 48, 48, 48, 48, 48, 48, 48, 48, 48]⟩ := by decide +kernel
end Go.Proofs.YtoonneminimbfaaGreatDoor
