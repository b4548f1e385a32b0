/- What the law NumOrder rests on. -/
import Derived.Test.YtoonneminimbfaaGreatDoorFloatOps
namespace Go.Proofs.YtoonneminimbfaaGreatDoor
open Go.RowKit
set_option linter.unusedVariables false
set_option linter.unusedSimpArgs false

theorem sum_comm (x y : Ieee.Datum) : x.sum y = y.sum x := by
  cases x <;> cases y <;> first | rfl | skip
  · rename_i s m i t n j
    simp only [Ieee.Datum.sum]
    rw [Int.min_comm j i, Int.add_comm, Bool.and_comm]
  · rename_i s t
    simp only [Ieee.Datum.sum]
    by_cases h : s = t
    · subst h; rfl
    · rw [if_neg h, if_neg (Ne.symm h)]
theorem product_comm (x y : Ieee.Datum) : x.product y = y.product x := by
  cases x <;> cases y <;> first | rfl | simp only [Ieee.Datum.product, Bool.xor_comm, Nat.mul_comm, Int.add_comm]
theorem add_comm_bits (a b : Nat) : floatBits .add .f64 b a = floatBits .add .f64 a b := by
  simp only [floatBits, Ieee.Format.add, sum_comm]
theorem mul_comm_bits (a b : Nat) : floatBits .mul .f64 b a = floatBits .mul .f64 a b := by
  simp only [floatBits, Ieee.Format.mul, product_comm]
theorem sub_self_bits (a : Nat) : floatBits .sub .f64 a a = none ∨ floatBits .sub .f64 a a = some 0 := by
  simp only [floatBits, Ieee.Format.sub]
  cases h : FloatKind.f64.format.read a with
  | nan s t => left; rfl
  | infinity s => left; cases s <;> rfl
  | number s m i =>
    right
    simp only [Ieee.Datum.opposite, Ieee.Datum.sum, Int.min_self, Option.map_some]
    have : Ieee.signed s m (i - i).toNat + Ieee.signed (!s) m (i - i).toNat = 0 := by
      cases s <;> simp [Ieee.signed] <;> omega
    rw [this]
    cases s <;> rfl
theorem showC_zero : showC (some 0) = 0 := by decide +kernel
theorem nanB_read (b : Nat) : nanB b = (Ieee.double.read b).isNaN := by rw [nanB_is, read_nan]
theorem order_nan_l {a b : Nat} (h : nanB a = true) : Ieee.double.order a b = none := by
  rw [nanB_read] at h
  unfold Ieee.Format.order
  cases h1 : Ieee.double.read a <;> rw [h1] at h <;> first | rfl | cases h
theorem order_nan_r {a b : Nat} (h : nanB b = true) : Ieee.double.order a b = none := by
  rw [nanB_read] at h
  unfold Ieee.Format.order
  cases h1 : Ieee.double.read b <;> rw [h1] at h <;> first | (cases Ieee.double.read a <;> rfl) | cases h
theorem datum_order_swap (x y : Ieee.Datum) : y.order x = (x.order y).map Ordering.swap := by
  cases x <;> cases y <;> simp only [Ieee.Datum.order, Option.map_some, Option.map_none]
  · rename_i s m i t n j
    rw [Int.min_comm j i, Std.OrientedCmp.eq_swap (cmp := (compare : Int → Int → Ordering))]
  · rename_i s m i t; cases t <;> rfl
  · rename_i s t n j; cases s <;> rfl
  · rename_i s t; cases s <;> cases t <;> rfl
theorem order_some {a b : Nat} (ha : nanB a = false) (hb : nanB b = false) : ∃ c, Ieee.double.order a b = some c ∧ Ieee.double.order b a = some c.swap := by
  rw [nanB_read] at ha hb
  have h : ∃ c, Ieee.double.order a b = some c := by
    unfold Ieee.Format.order
    cases h1 : Ieee.double.read a <;> rw [h1] at ha <;> cases h2 : Ieee.double.read b <;> rw [h2] at hb <;> first | exact ⟨_, rfl⟩ | (simp [Ieee.Datum.isNaN] at ha; done) | (simp [Ieee.Datum.isNaN] at hb; done)
  obtain ⟨c, hc⟩ := h
  refine ⟨c, hc, ?_⟩
  unfold Ieee.Format.order at hc ⊢
  rw [datum_order_swap, hc]; rfl

/-- What the law's calls hand back. -/
structure Ord (a b g : Nat) (w : World) (eq : Bool) (d : ByteArray) (SH : Nat → ByteArray → Prop) (LT : Nat → Nat → Bool → Prop) (AD MU : Nat → Nat → ByteArray → Prop) (NG : Nat → Nat → Prop) : Prop where
  l1 : ∀ x y v w', LT x y v → Calls Tryz.prog 25 #[.float .f64 x, .float .f64 y] w' fun e w'' => e = .returned (.bool v) ∧ w' = w''
  l3 : ∀ w', Calls Tryz.prog 33 #[.float .f64 a, .float .f64 b] w' fun e w'' => e = .returned (.bool eq) ∧ w' = w''
  s1 : ∀ w' r s, Below w.heap.size w w' → SH r s → Calls Tryz.prog 21 #[.float .f64 r] w' fun e w'' => e = .returned (.string s) ∧ Below w.heap.size w w''
  m1 : ∀ w', Below w.heap.size w w' → Calls Tryz.prog 34 #[.float .f64 a, .float .f64 a] w' fun e w'' => (∃ r, e = .returned (.float .f64 r) ∧ SH r d) ∧ Below w.heap.size w w''
  a1 : ∀ w' x y s, Below w.heap.size w w' → AD x y s → Calls Tryz.prog 35 #[.float .f64 x, .float .f64 y] w' fun e w'' => (∃ r, e = .returned (.float .f64 r) ∧ SH r s) ∧ Below w.heap.size w w''
  p1 : ∀ w' x y s, Below w.heap.size w w' → MU x y s → Calls Tryz.prog 36 #[.float .f64 x, .float .f64 y] w' fun e w'' => (∃ r, e = .returned (.float .f64 r) ∧ SH r s) ∧ Below w.heap.size w w''
  n1 : ∀ w' x y, NG x y → Calls Tryz.prog 37 #[.float .f64 x] w' fun e w'' => e = .returned (.float .f64 y) ∧ w' = w''
  wk : ∀ w', Below w.heap.size w w' → Calls Tryz.prog 18 #[] w' fun e w'' => e = .returned (.bool true) ∧ Below w.heap.size w w''
  ng : NG a g
  ng2 : NG g a

def ShowsAs (r : Nat) (s : ByteArray) : Prop := r < 18446744073709551616 ∧ wide (canon r) = s
theorem shows_of {w w' : World} {f : FuncId} {args : Array Value} {o : Option Nat} {s : ByteArray} (hs : wide (showC o) = s) (hb : Below w.heap.size w w') (h : Calls Tryz.prog f args w' fun e w'' => RetF o e ∧ Below w'.heap.size w' w'') :
    Calls Tryz.prog f args w' fun e w'' => (∃ r, e = .returned (.float .f64 r) ∧ ShowsAs r s) ∧ Below w.heap.size w w'' :=
  h.mono fun e w'' ⟨⟨r, he, hr⟩, hb'⟩ => ⟨⟨r, he, hr.1, by rw [canon_res hr]; exact hs⟩, hb.trans (hb'.mono hb.size)⟩
theorem ord_of (a b : Nat) (w : World) (eq : Bool) (d : ByteArray) (ha : a < 18446744073709551616) (hb : b < 18446744073709551616) (h : Glob w) (h3 : feqB a b = eq) (hd : wide (showC (floatBits .sub .f64 a a)) = d) :
    Ord a b (fnegV a) w eq d ShowsAs (fun x y v => fltB x y = v) (fun x y s => wide (showC (floatBits .add .f64 x y)) = s) (fun x y s => wide (showC (floatBits .mul .f64 x y)) = s) (fun x y => fnegV x = y) where
  l1 := fun x y v w' hv => by rw [← hv]; exact fless_any x y w'
  l3 := by rw [← h3]; exact fun w' => fequal_any a b w'
  s1 := fun w' r s hw hr => by rw [← hr.2]; exact later hw (show_all r hr.1 w' (h.below hw))
  m1 := fun w' hw => shows_of hd hw (fsub_any a a w')
  a1 := fun w' x y s hw hs => shows_of hs hw (fadd_any x y w')
  p1 := fun w' x y s hw hs => shows_of hs hw (fmul_any x y w')
  n1 := fun w' x y hy => by rw [← hy]; exact fneg_any x w'
  wk := fun w' hw => glob_awake w w' h hw
  ng := rfl
  ng2 := fneg_fneg a
end Go.Proofs.YtoonneminimbfaaGreatDoor
