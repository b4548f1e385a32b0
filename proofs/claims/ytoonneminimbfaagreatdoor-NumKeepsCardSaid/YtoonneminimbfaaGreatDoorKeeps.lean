/- The law NumKeeps. -/
import Derived.Test.YtoonneminimbfaaGreatDoorKeeps0
namespace Go.Proofs.YtoonneminimbfaaGreatDoor
open Go.RowKit
set_option linter.unusedVariables false
set_option linter.unusedSimpArgs false

set_option maxRecDepth 1000000 in
set_option maxHeartbeats 1600000 in
theorem lawKeeps_lt_lo (a b : Int) (xf yf : Nat) (w : World) (TF : Int → Nat → Prop) (LT : Nat → Nat → Bool → Prop) (BK : Nat → Int → Prop) (hab : a < b) (h : a < -9007199254740992) (h1 : TF a xf) (h2' : TF b yf) (l1 : LT yf xf false)
    (HT : RowKit.Hid (∀ x r w', TF x r → Calls Tryz.prog 24 #[.int .i64 x] w' fun e w'' => e = .returned (.float .f64 r) ∧ w' = w''))
    (HL : RowKit.Hid (∀ x y v w', LT x y v → Calls Tryz.prog 25 #[.float .f64 x, .float .f64 y] w' fun e w'' => e = .returned (.bool v) ∧ w' = w''))
    (HB : RowKit.Hid (∀ x n w', BK x n → Calls Tryz.prog 26 #[.float .f64 x] w' fun e w'' => e = .returned (.int .i64 n) ∧ w' = w''))
    (HW : RowKit.Hid (Calls Tryz.prog 18 #[] w fun e w'' => e = .returned (.bool true) ∧ Below w.heap.size w w'')) :
    Calls Tryz.prog 5 #[.int .i64 a, .int .i64 b] w fun e w' => e = .returned (.bool true) ∧ Below w.heap.size w w' := by
  have d0 : decide (a ≤ b) = true := by simp; omega
  have d1 : decide (a ≥ b) = false := by simp; omega
  have d2 : decide (a < b) = true := by simp; omega
  have d3 : decide (a ≥ -9007199254740992) = false := by simp; omega
  have d4 : decide (a ≤ 9007199254740992) = true := by simp; omega
  have d5 : decide (a < 9007199254740992) = true := by simp; omega
  clear hab h
  go_enter Tryz.func5, Tryz.ntmps5
  go_wp2_with (first | (go_at_call 24; refine Calls.mono (HT.out _ _ _ (by assumption)) ?_; rintro e w1 ⟨rfl, rfl⟩) | (go_at_call 25; refine Calls.mono (HL.out _ _ _ _ (by assumption)) ?_; rintro e w1 ⟨rfl, rfl⟩) | (go_at_call 26; refine Calls.mono (HB.out _ _ _ (by assumption)) ?_; rintro e w1 ⟨rfl, rfl⟩) | (go_at_call 18; refine HW.out.mono ?_; rintro e w1 ⟨rfl, hb1⟩))
  go_ret
  exact ⟨rfl, hb1⟩

set_option maxRecDepth 1000000 in
set_option maxHeartbeats 1600000 in
theorem lawKeeps_lt_in (a b : Int) (xf yf : Nat) (w : World) (TF : Int → Nat → Prop) (LT : Nat → Nat → Bool → Prop) (BK : Nat → Int → Prop) (hab : a < b) (h : -9007199254740992 ≤ a) (h2 : a < 9007199254740992) (h1 : TF a xf) (h2' : TF b yf) (l1 : LT yf xf false) (l2 : LT xf yf true) (bk : BK xf a)
    (HT : RowKit.Hid (∀ x r w', TF x r → Calls Tryz.prog 24 #[.int .i64 x] w' fun e w'' => e = .returned (.float .f64 r) ∧ w' = w''))
    (HL : RowKit.Hid (∀ x y v w', LT x y v → Calls Tryz.prog 25 #[.float .f64 x, .float .f64 y] w' fun e w'' => e = .returned (.bool v) ∧ w' = w''))
    (HB : RowKit.Hid (∀ x n w', BK x n → Calls Tryz.prog 26 #[.float .f64 x] w' fun e w'' => e = .returned (.int .i64 n) ∧ w' = w''))
    (HW : RowKit.Hid (Calls Tryz.prog 18 #[] w fun e w'' => e = .returned (.bool true) ∧ Below w.heap.size w w'')) :
    Calls Tryz.prog 5 #[.int .i64 a, .int .i64 b] w fun e w' => e = .returned (.bool true) ∧ Below w.heap.size w w' := by
  have d0 : decide (a ≤ b) = true := by simp; omega
  have d1 : decide (a ≥ b) = false := by simp; omega
  have d2 : decide (a < b) = true := by simp; omega
  have d3 : decide (a ≥ -9007199254740992) = true := by simp; omega
  have d4 : decide (a ≤ 9007199254740992) = true := by simp; omega
  have d5 : decide (a < 9007199254740992) = true := by simp; omega
  clear hab h h2
  go_enter Tryz.func5, Tryz.ntmps5
  go_wp2_with (first | (go_at_call 24; refine Calls.mono (HT.out _ _ _ (by assumption)) ?_; rintro e w1 ⟨rfl, rfl⟩) | (go_at_call 25; refine Calls.mono (HL.out _ _ _ _ (by assumption)) ?_; rintro e w1 ⟨rfl, rfl⟩) | (go_at_call 26; refine Calls.mono (HB.out _ _ _ (by assumption)) ?_; rintro e w1 ⟨rfl, rfl⟩) | (go_at_call 18; refine HW.out.mono ?_; rintro e w1 ⟨rfl, hb1⟩))
  go_ret
  exact ⟨rfl, hb1⟩

set_option maxRecDepth 1000000 in
set_option maxHeartbeats 1600000 in
theorem lawKeeps_lt_top (a b : Int) (xf yf : Nat) (w : World) (TF : Int → Nat → Prop) (LT : Nat → Nat → Bool → Prop) (BK : Nat → Int → Prop) (hab : a < b) (h : a = 9007199254740992) (h1 : TF a xf) (h2' : TF b yf) (l1 : LT yf xf false) (bk : BK xf a)
    (HT : RowKit.Hid (∀ x r w', TF x r → Calls Tryz.prog 24 #[.int .i64 x] w' fun e w'' => e = .returned (.float .f64 r) ∧ w' = w''))
    (HL : RowKit.Hid (∀ x y v w', LT x y v → Calls Tryz.prog 25 #[.float .f64 x, .float .f64 y] w' fun e w'' => e = .returned (.bool v) ∧ w' = w''))
    (HB : RowKit.Hid (∀ x n w', BK x n → Calls Tryz.prog 26 #[.float .f64 x] w' fun e w'' => e = .returned (.int .i64 n) ∧ w' = w''))
    (HW : RowKit.Hid (Calls Tryz.prog 18 #[] w fun e w'' => e = .returned (.bool true) ∧ Below w.heap.size w w'')) :
    Calls Tryz.prog 5 #[.int .i64 a, .int .i64 b] w fun e w' => e = .returned (.bool true) ∧ Below w.heap.size w w' := by
  have d0 : decide (a ≤ b) = true := by simp; omega
  have d1 : decide (a ≥ b) = false := by simp; omega
  have d2 : decide (a < b) = true := by simp; omega
  have d3 : decide (a ≥ -9007199254740992) = true := by simp; omega
  have d4 : decide (a ≤ 9007199254740992) = true := by simp; omega
  have d5 : decide (a < 9007199254740992) = false := by simp; omega
  clear hab h
  go_enter Tryz.func5, Tryz.ntmps5
  go_wp2_with (first | (go_at_call 24; refine Calls.mono (HT.out _ _ _ (by assumption)) ?_; rintro e w1 ⟨rfl, rfl⟩) | (go_at_call 25; refine Calls.mono (HL.out _ _ _ _ (by assumption)) ?_; rintro e w1 ⟨rfl, rfl⟩) | (go_at_call 26; refine Calls.mono (HB.out _ _ _ (by assumption)) ?_; rintro e w1 ⟨rfl, rfl⟩) | (go_at_call 18; refine HW.out.mono ?_; rintro e w1 ⟨rfl, hb1⟩))
  go_ret
  exact ⟨rfl, hb1⟩

set_option maxRecDepth 1000000 in
set_option maxHeartbeats 1600000 in
theorem lawKeeps_lt_hi (a b : Int) (xf yf : Nat) (w : World) (TF : Int → Nat → Prop) (LT : Nat → Nat → Bool → Prop) (BK : Nat → Int → Prop) (hab : a < b) (h : 9007199254740992 < a) (h1 : TF a xf) (h2' : TF b yf) (l1 : LT yf xf false)
    (HT : RowKit.Hid (∀ x r w', TF x r → Calls Tryz.prog 24 #[.int .i64 x] w' fun e w'' => e = .returned (.float .f64 r) ∧ w' = w''))
    (HL : RowKit.Hid (∀ x y v w', LT x y v → Calls Tryz.prog 25 #[.float .f64 x, .float .f64 y] w' fun e w'' => e = .returned (.bool v) ∧ w' = w''))
    (HB : RowKit.Hid (∀ x n w', BK x n → Calls Tryz.prog 26 #[.float .f64 x] w' fun e w'' => e = .returned (.int .i64 n) ∧ w' = w''))
    (HW : RowKit.Hid (Calls Tryz.prog 18 #[] w fun e w'' => e = .returned (.bool true) ∧ Below w.heap.size w w'')) :
    Calls Tryz.prog 5 #[.int .i64 a, .int .i64 b] w fun e w' => e = .returned (.bool true) ∧ Below w.heap.size w w' := by
  have d0 : decide (a ≤ b) = true := by simp; omega
  have d1 : decide (a ≥ b) = false := by simp; omega
  have d2 : decide (a < b) = true := by simp; omega
  have d3 : decide (a ≥ -9007199254740992) = true := by simp; omega
  have d4 : decide (a ≤ 9007199254740992) = false := by simp; omega
  have d5 : decide (a < 9007199254740992) = false := by simp; omega
  clear hab h
  go_enter Tryz.func5, Tryz.ntmps5
  go_wp2_with (first | (go_at_call 24; refine Calls.mono (HT.out _ _ _ (by assumption)) ?_; rintro e w1 ⟨rfl, rfl⟩) | (go_at_call 25; refine Calls.mono (HL.out _ _ _ _ (by assumption)) ?_; rintro e w1 ⟨rfl, rfl⟩) | (go_at_call 26; refine Calls.mono (HB.out _ _ _ (by assumption)) ?_; rintro e w1 ⟨rfl, rfl⟩) | (go_at_call 18; refine HW.out.mono ?_; rintro e w1 ⟨rfl, hb1⟩))
  go_ret
  exact ⟨rfl, hb1⟩

set_option maxRecDepth 1000000 in
set_option maxHeartbeats 1600000 in
theorem lawKeeps_eq_lo (a b : Int) (xf yf : Nat) (w : World) (TF : Int → Nat → Prop) (LT : Nat → Nat → Bool → Prop) (BK : Nat → Int → Prop) (hab : a = b) (h : a < -9007199254740992) (h1 : TF a xf) (h2' : TF b yf) (l1 : LT yf xf false) (l2 : LT xf yf false)
    (HT : RowKit.Hid (∀ x r w', TF x r → Calls Tryz.prog 24 #[.int .i64 x] w' fun e w'' => e = .returned (.float .f64 r) ∧ w' = w''))
    (HL : RowKit.Hid (∀ x y v w', LT x y v → Calls Tryz.prog 25 #[.float .f64 x, .float .f64 y] w' fun e w'' => e = .returned (.bool v) ∧ w' = w''))
    (HB : RowKit.Hid (∀ x n w', BK x n → Calls Tryz.prog 26 #[.float .f64 x] w' fun e w'' => e = .returned (.int .i64 n) ∧ w' = w''))
    (HW : RowKit.Hid (Calls Tryz.prog 18 #[] w fun e w'' => e = .returned (.bool true) ∧ Below w.heap.size w w'')) :
    Calls Tryz.prog 5 #[.int .i64 a, .int .i64 b] w fun e w' => e = .returned (.bool true) ∧ Below w.heap.size w w' := by
  have d0 : decide (a ≤ b) = true := by simp; omega
  have d1 : decide (a ≥ b) = true := by simp; omega
  have d2 : decide (a < b) = false := by simp; omega
  have d3 : decide (a ≥ -9007199254740992) = false := by simp; omega
  have d4 : decide (a ≤ 9007199254740992) = true := by simp; omega
  have d5 : decide (a < 9007199254740992) = true := by simp; omega
  clear hab h
  go_enter Tryz.func5, Tryz.ntmps5
  go_wp2_with (first | (go_at_call 24; refine Calls.mono (HT.out _ _ _ (by assumption)) ?_; rintro e w1 ⟨rfl, rfl⟩) | (go_at_call 25; refine Calls.mono (HL.out _ _ _ _ (by assumption)) ?_; rintro e w1 ⟨rfl, rfl⟩) | (go_at_call 26; refine Calls.mono (HB.out _ _ _ (by assumption)) ?_; rintro e w1 ⟨rfl, rfl⟩) | (go_at_call 18; refine HW.out.mono ?_; rintro e w1 ⟨rfl, hb1⟩))
  go_ret
  exact ⟨rfl, hb1⟩

set_option maxRecDepth 1000000 in
set_option maxHeartbeats 1600000 in
theorem lawKeeps_eq_in (a b : Int) (xf yf : Nat) (w : World) (TF : Int → Nat → Prop) (LT : Nat → Nat → Bool → Prop) (BK : Nat → Int → Prop) (hab : a = b) (h : -9007199254740992 ≤ a) (h2 : a < 9007199254740992) (h1 : TF a xf) (h2' : TF b yf) (l1 : LT yf xf false) (l2 : LT xf yf false) (bk : BK xf a)
    (HT : RowKit.Hid (∀ x r w', TF x r → Calls Tryz.prog 24 #[.int .i64 x] w' fun e w'' => e = .returned (.float .f64 r) ∧ w' = w''))
    (HL : RowKit.Hid (∀ x y v w', LT x y v → Calls Tryz.prog 25 #[.float .f64 x, .float .f64 y] w' fun e w'' => e = .returned (.bool v) ∧ w' = w''))
    (HB : RowKit.Hid (∀ x n w', BK x n → Calls Tryz.prog 26 #[.float .f64 x] w' fun e w'' => e = .returned (.int .i64 n) ∧ w' = w''))
    (HW : RowKit.Hid (Calls Tryz.prog 18 #[] w fun e w'' => e = .returned (.bool true) ∧ Below w.heap.size w w'')) :
    Calls Tryz.prog 5 #[.int .i64 a, .int .i64 b] w fun e w' => e = .returned (.bool true) ∧ Below w.heap.size w w' := by
  have d0 : decide (a ≤ b) = true := by simp; omega
  have d1 : decide (a ≥ b) = true := by simp; omega
  have d2 : decide (a < b) = false := by simp; omega
  have d3 : decide (a ≥ -9007199254740992) = true := by simp; omega
  have d4 : decide (a ≤ 9007199254740992) = true := by simp; omega
  have d5 : decide (a < 9007199254740992) = true := by simp; omega
  clear hab h h2
  go_enter Tryz.func5, Tryz.ntmps5
  go_wp2_with (first | (go_at_call 24; refine Calls.mono (HT.out _ _ _ (by assumption)) ?_; rintro e w1 ⟨rfl, rfl⟩) | (go_at_call 25; refine Calls.mono (HL.out _ _ _ _ (by assumption)) ?_; rintro e w1 ⟨rfl, rfl⟩) | (go_at_call 26; refine Calls.mono (HB.out _ _ _ (by assumption)) ?_; rintro e w1 ⟨rfl, rfl⟩) | (go_at_call 18; refine HW.out.mono ?_; rintro e w1 ⟨rfl, hb1⟩))
  go_ret
  exact ⟨rfl, hb1⟩

set_option maxRecDepth 1000000 in
set_option maxHeartbeats 1600000 in
theorem lawKeeps_eq_top (a b : Int) (xf yf : Nat) (w : World) (TF : Int → Nat → Prop) (LT : Nat → Nat → Bool → Prop) (BK : Nat → Int → Prop) (hab : a = b) (h : a = 9007199254740992) (h1 : TF a xf) (h2' : TF b yf) (l1 : LT yf xf false) (l2 : LT xf yf false) (bk : BK xf a)
    (HT : RowKit.Hid (∀ x r w', TF x r → Calls Tryz.prog 24 #[.int .i64 x] w' fun e w'' => e = .returned (.float .f64 r) ∧ w' = w''))
    (HL : RowKit.Hid (∀ x y v w', LT x y v → Calls Tryz.prog 25 #[.float .f64 x, .float .f64 y] w' fun e w'' => e = .returned (.bool v) ∧ w' = w''))
    (HB : RowKit.Hid (∀ x n w', BK x n → Calls Tryz.prog 26 #[.float .f64 x] w' fun e w'' => e = .returned (.int .i64 n) ∧ w' = w''))
    (HW : RowKit.Hid (Calls Tryz.prog 18 #[] w fun e w'' => e = .returned (.bool true) ∧ Below w.heap.size w w'')) :
    Calls Tryz.prog 5 #[.int .i64 a, .int .i64 b] w fun e w' => e = .returned (.bool true) ∧ Below w.heap.size w w' := by
  have d0 : decide (a ≤ b) = true := by simp; omega
  have d1 : decide (a ≥ b) = true := by simp; omega
  have d2 : decide (a < b) = false := by simp; omega
  have d3 : decide (a ≥ -9007199254740992) = true := by simp; omega
  have d4 : decide (a ≤ 9007199254740992) = true := by simp; omega
  have d5 : decide (a < 9007199254740992) = false := by simp; omega
  clear hab h
  go_enter Tryz.func5, Tryz.ntmps5
  go_wp2_with (first | (go_at_call 24; refine Calls.mono (HT.out _ _ _ (by assumption)) ?_; rintro e w1 ⟨rfl, rfl⟩) | (go_at_call 25; refine Calls.mono (HL.out _ _ _ _ (by assumption)) ?_; rintro e w1 ⟨rfl, rfl⟩) | (go_at_call 26; refine Calls.mono (HB.out _ _ _ (by assumption)) ?_; rintro e w1 ⟨rfl, rfl⟩) | (go_at_call 18; refine HW.out.mono ?_; rintro e w1 ⟨rfl, hb1⟩))
  go_ret
  exact ⟨rfl, hb1⟩

set_option maxRecDepth 1000000 in
set_option maxHeartbeats 1600000 in
theorem lawKeeps_eq_hi (a b : Int) (xf yf : Nat) (w : World) (TF : Int → Nat → Prop) (LT : Nat → Nat → Bool → Prop) (BK : Nat → Int → Prop) (hab : a = b) (h : 9007199254740992 < a) (h1 : TF a xf) (h2' : TF b yf) (l1 : LT yf xf false) (l2 : LT xf yf false)
    (HT : RowKit.Hid (∀ x r w', TF x r → Calls Tryz.prog 24 #[.int .i64 x] w' fun e w'' => e = .returned (.float .f64 r) ∧ w' = w''))
    (HL : RowKit.Hid (∀ x y v w', LT x y v → Calls Tryz.prog 25 #[.float .f64 x, .float .f64 y] w' fun e w'' => e = .returned (.bool v) ∧ w' = w''))
    (HB : RowKit.Hid (∀ x n w', BK x n → Calls Tryz.prog 26 #[.float .f64 x] w' fun e w'' => e = .returned (.int .i64 n) ∧ w' = w''))
    (HW : RowKit.Hid (Calls Tryz.prog 18 #[] w fun e w'' => e = .returned (.bool true) ∧ Below w.heap.size w w'')) :
    Calls Tryz.prog 5 #[.int .i64 a, .int .i64 b] w fun e w' => e = .returned (.bool true) ∧ Below w.heap.size w w' := by
  have d0 : decide (a ≤ b) = true := by simp; omega
  have d1 : decide (a ≥ b) = true := by simp; omega
  have d2 : decide (a < b) = false := by simp; omega
  have d3 : decide (a ≥ -9007199254740992) = true := by simp; omega
  have d4 : decide (a ≤ 9007199254740992) = false := by simp; omega
  have d5 : decide (a < 9007199254740992) = false := by simp; omega
  clear hab h
  go_enter Tryz.func5, Tryz.ntmps5
  go_wp2_with (first | (go_at_call 24; refine Calls.mono (HT.out _ _ _ (by assumption)) ?_; rintro e w1 ⟨rfl, rfl⟩) | (go_at_call 25; refine Calls.mono (HL.out _ _ _ _ (by assumption)) ?_; rintro e w1 ⟨rfl, rfl⟩) | (go_at_call 26; refine Calls.mono (HB.out _ _ _ (by assumption)) ?_; rintro e w1 ⟨rfl, rfl⟩) | (go_at_call 18; refine HW.out.mono ?_; rintro e w1 ⟨rfl, hb1⟩))
  go_ret
  exact ⟨rfl, hb1⟩

set_option maxRecDepth 1000000 in
set_option maxHeartbeats 1600000 in
theorem lawKeeps_gt_lo (a b : Int) (xf yf : Nat) (w : World) (TF : Int → Nat → Prop) (LT : Nat → Nat → Bool → Prop) (BK : Nat → Int → Prop) (hab : b < a) (h : a < -9007199254740992) (h1 : TF a xf) (h2' : TF b yf) (l2 : LT xf yf false)
    (HT : RowKit.Hid (∀ x r w', TF x r → Calls Tryz.prog 24 #[.int .i64 x] w' fun e w'' => e = .returned (.float .f64 r) ∧ w' = w''))
    (HL : RowKit.Hid (∀ x y v w', LT x y v → Calls Tryz.prog 25 #[.float .f64 x, .float .f64 y] w' fun e w'' => e = .returned (.bool v) ∧ w' = w''))
    (HB : RowKit.Hid (∀ x n w', BK x n → Calls Tryz.prog 26 #[.float .f64 x] w' fun e w'' => e = .returned (.int .i64 n) ∧ w' = w''))
    (HW : RowKit.Hid (Calls Tryz.prog 18 #[] w fun e w'' => e = .returned (.bool true) ∧ Below w.heap.size w w'')) :
    Calls Tryz.prog 5 #[.int .i64 a, .int .i64 b] w fun e w' => e = .returned (.bool true) ∧ Below w.heap.size w w' := by
  have d0 : decide (a ≤ b) = false := by simp; omega
  have d1 : decide (a ≥ b) = true := by simp; omega
  have d2 : decide (a < b) = false := by simp; omega
  have d3 : decide (a ≥ -9007199254740992) = false := by simp; omega
  have d4 : decide (a ≤ 9007199254740992) = true := by simp; omega
  have d5 : decide (a < 9007199254740992) = true := by simp; omega
  clear hab h
  go_enter Tryz.func5, Tryz.ntmps5
  go_wp2_with (first | (go_at_call 24; refine Calls.mono (HT.out _ _ _ (by assumption)) ?_; rintro e w1 ⟨rfl, rfl⟩) | (go_at_call 25; refine Calls.mono (HL.out _ _ _ _ (by assumption)) ?_; rintro e w1 ⟨rfl, rfl⟩) | (go_at_call 26; refine Calls.mono (HB.out _ _ _ (by assumption)) ?_; rintro e w1 ⟨rfl, rfl⟩) | (go_at_call 18; refine HW.out.mono ?_; rintro e w1 ⟨rfl, hb1⟩))
  go_ret
  exact ⟨rfl, hb1⟩

set_option maxRecDepth 1000000 in
set_option maxHeartbeats 1600000 in
theorem lawKeeps_gt_in (a b : Int) (xf yf : Nat) (w : World) (TF : Int → Nat → Prop) (LT : Nat → Nat → Bool → Prop) (BK : Nat → Int → Prop) (hab : b < a) (h : -9007199254740992 ≤ a) (h2 : a < 9007199254740992) (h1 : TF a xf) (h2' : TF b yf) (l2 : LT xf yf false) (bk : BK xf a)
    (HT : RowKit.Hid (∀ x r w', TF x r → Calls Tryz.prog 24 #[.int .i64 x] w' fun e w'' => e = .returned (.float .f64 r) ∧ w' = w''))
    (HL : RowKit.Hid (∀ x y v w', LT x y v → Calls Tryz.prog 25 #[.float .f64 x, .float .f64 y] w' fun e w'' => e = .returned (.bool v) ∧ w' = w''))
    (HB : RowKit.Hid (∀ x n w', BK x n → Calls Tryz.prog 26 #[.float .f64 x] w' fun e w'' => e = .returned (.int .i64 n) ∧ w' = w''))
    (HW : RowKit.Hid (Calls Tryz.prog 18 #[] w fun e w'' => e = .returned (.bool true) ∧ Below w.heap.size w w'')) :
    Calls Tryz.prog 5 #[.int .i64 a, .int .i64 b] w fun e w' => e = .returned (.bool true) ∧ Below w.heap.size w w' := by
  have d0 : decide (a ≤ b) = false := by simp; omega
  have d1 : decide (a ≥ b) = true := by simp; omega
  have d2 : decide (a < b) = false := by simp; omega
  have d3 : decide (a ≥ -9007199254740992) = true := by simp; omega
  have d4 : decide (a ≤ 9007199254740992) = true := by simp; omega
  have d5 : decide (a < 9007199254740992) = true := by simp; omega
  clear hab h h2
  go_enter Tryz.func5, Tryz.ntmps5
  go_wp2_with (first | (go_at_call 24; refine Calls.mono (HT.out _ _ _ (by assumption)) ?_; rintro e w1 ⟨rfl, rfl⟩) | (go_at_call 25; refine Calls.mono (HL.out _ _ _ _ (by assumption)) ?_; rintro e w1 ⟨rfl, rfl⟩) | (go_at_call 26; refine Calls.mono (HB.out _ _ _ (by assumption)) ?_; rintro e w1 ⟨rfl, rfl⟩) | (go_at_call 18; refine HW.out.mono ?_; rintro e w1 ⟨rfl, hb1⟩))
  go_ret
  exact ⟨rfl, hb1⟩

set_option maxRecDepth 1000000 in
set_option maxHeartbeats 1600000 in
theorem lawKeeps_gt_top (a b : Int) (xf yf : Nat) (w : World) (TF : Int → Nat → Prop) (LT : Nat → Nat → Bool → Prop) (BK : Nat → Int → Prop) (hab : b < a) (h : a = 9007199254740992) (h1 : TF a xf) (h2' : TF b yf) (l2 : LT xf yf false) (bk : BK xf a)
    (HT : RowKit.Hid (∀ x r w', TF x r → Calls Tryz.prog 24 #[.int .i64 x] w' fun e w'' => e = .returned (.float .f64 r) ∧ w' = w''))
    (HL : RowKit.Hid (∀ x y v w', LT x y v → Calls Tryz.prog 25 #[.float .f64 x, .float .f64 y] w' fun e w'' => e = .returned (.bool v) ∧ w' = w''))
    (HB : RowKit.Hid (∀ x n w', BK x n → Calls Tryz.prog 26 #[.float .f64 x] w' fun e w'' => e = .returned (.int .i64 n) ∧ w' = w''))
    (HW : RowKit.Hid (Calls Tryz.prog 18 #[] w fun e w'' => e = .returned (.bool true) ∧ Below w.heap.size w w'')) :
    Calls Tryz.prog 5 #[.int .i64 a, .int .i64 b] w fun e w' => e = .returned (.bool true) ∧ Below w.heap.size w w' := by
  have d0 : decide (a ≤ b) = false := by simp; omega
  have d1 : decide (a ≥ b) = true := by simp; omega
  have d2 : decide (a < b) = false := by simp; omega
  have d3 : decide (a ≥ -9007199254740992) = true := by simp; omega
  have d4 : decide (a ≤ 9007199254740992) = true := by simp; omega
  have d5 : decide (a < 9007199254740992) = false := by simp; omega
  clear hab h
  go_enter Tryz.func5, Tryz.ntmps5
  go_wp2_with (first | (go_at_call 24; refine Calls.mono (HT.out _ _ _ (by assumption)) ?_; rintro e w1 ⟨rfl, rfl⟩) | (go_at_call 25; refine Calls.mono (HL.out _ _ _ _ (by assumption)) ?_; rintro e w1 ⟨rfl, rfl⟩) | (go_at_call 26; refine Calls.mono (HB.out _ _ _ (by assumption)) ?_; rintro e w1 ⟨rfl, rfl⟩) | (go_at_call 18; refine HW.out.mono ?_; rintro e w1 ⟨rfl, hb1⟩))
  go_ret
  exact ⟨rfl, hb1⟩

set_option maxRecDepth 1000000 in
set_option maxHeartbeats 1600000 in
theorem lawKeeps_gt_hi (a b : Int) (xf yf : Nat) (w : World) (TF : Int → Nat → Prop) (LT : Nat → Nat → Bool → Prop) (BK : Nat → Int → Prop) (hab : b < a) (h : 9007199254740992 < a) (h1 : TF a xf) (h2' : TF b yf) (l2 : LT xf yf false)
    (HT : RowKit.Hid (∀ x r w', TF x r → Calls Tryz.prog 24 #[.int .i64 x] w' fun e w'' => e = .returned (.float .f64 r) ∧ w' = w''))
    (HL : RowKit.Hid (∀ x y v w', LT x y v → Calls Tryz.prog 25 #[.float .f64 x, .float .f64 y] w' fun e w'' => e = .returned (.bool v) ∧ w' = w''))
    (HB : RowKit.Hid (∀ x n w', BK x n → Calls Tryz.prog 26 #[.float .f64 x] w' fun e w'' => e = .returned (.int .i64 n) ∧ w' = w''))
    (HW : RowKit.Hid (Calls Tryz.prog 18 #[] w fun e w'' => e = .returned (.bool true) ∧ Below w.heap.size w w'')) :
    Calls Tryz.prog 5 #[.int .i64 a, .int .i64 b] w fun e w' => e = .returned (.bool true) ∧ Below w.heap.size w w' := by
  have d0 : decide (a ≤ b) = false := by simp; omega
  have d1 : decide (a ≥ b) = true := by simp; omega
  have d2 : decide (a < b) = false := by simp; omega
  have d3 : decide (a ≥ -9007199254740992) = true := by simp; omega
  have d4 : decide (a ≤ 9007199254740992) = false := by simp; omega
  have d5 : decide (a < 9007199254740992) = false := by simp; omega
  clear hab h
  go_enter Tryz.func5, Tryz.ntmps5
  go_wp2_with (first | (go_at_call 24; refine Calls.mono (HT.out _ _ _ (by assumption)) ?_; rintro e w1 ⟨rfl, rfl⟩) | (go_at_call 25; refine Calls.mono (HL.out _ _ _ _ (by assumption)) ?_; rintro e w1 ⟨rfl, rfl⟩) | (go_at_call 26; refine Calls.mono (HB.out _ _ _ (by assumption)) ?_; rintro e w1 ⟨rfl, rfl⟩) | (go_at_call 18; refine HW.out.mono ?_; rintro e w1 ⟨rfl, hb1⟩))
  go_ret
  exact ⟨rfl, hb1⟩

theorem lawKeeps (a b : Int) (w : World) (ha0 : -9223372036854775808 ≤ a) (ha1 : a ≤ 9223372036854775807) (hb0 : -9223372036854775808 ≤ b) (hb1 : b ≤ 9223372036854775807) (h : Glob w) :
    Calls Tryz.prog 5 #[.int .i64 a, .int .i64 b] w fun e w' => e = .returned (.bool true) ∧ Below w.heap.size w w' := by
  have HT := Lib.hid (fun (x : Int) (r : Nat) (w' : World) (hx : (-9223372036854775808 ≤ x ∧ x ≤ 9223372036854775807) ∧ tf x = r) => (show Calls Tryz.prog 24 #[.int .i64 x] w' fun e w'' => e = .returned (.float .f64 r) ∧ w' = w'' by rw [← hx.2]; exact toFloat_any x hx.1.1 hx.1.2 w'))
  have HL := Lib.hid (fun (x y : Nat) (v : Bool) (w' : World) (hx : fltB x y = v) => (show Calls Tryz.prog 25 #[.float .f64 x, .float .f64 y] w' fun e w'' => e = .returned (.bool v) ∧ w' = w'' by rw [← hx]; exact fless_any x y w'))
  have HB := Lib.hid (fun (x : Nat) (n : Int) (w' : World) (hx : x = tf n ∧ -9007199254740992 ≤ n ∧ n ≤ 9007199254740992) => (show Calls Tryz.prog 26 #[.float .f64 x] w' fun e w'' => e = .returned (.int .i64 n) ∧ w' = w'' by rw [hx.1]; exact toInt_small n hx.2.1 hx.2.2 w'))
  have HW := Lib.hid (awake_any w h)
  have f1 := flt_tf a b ha0 ha1 hb0 hb1
  have f2 := flt_tf b a hb0 hb1 ha0 ha1
  have t1 : (-9223372036854775808 ≤ a ∧ a ≤ 9223372036854775807) ∧ tf a = tf a := ⟨⟨ha0, ha1⟩, rfl⟩
  have t2 : (-9223372036854775808 ≤ b ∧ b ≤ 9223372036854775807) ∧ tf b = tf b := ⟨⟨hb0, hb1⟩, rfl⟩
  have n1 : a ≤ b → fltB (tf b) (tf a) = false := fun hle => by rw [f2]; have := R_mono hle; apply decide_eq_false; omega
  have n2 : b ≤ a → fltB (tf a) (tf b) = false := fun hle => by rw [f1]; have := R_mono hle; apply decide_eq_false; omega
  have n3 : a < b → -9007199254740992 ≤ a → a < 9007199254740992 → fltB (tf a) (tf b) = true := fun h1 h2 h3 => by rw [f1]; exact decide_eq_true (R_strict h1 h2 h3)
  have bk : -9007199254740992 ≤ a → a ≤ 9007199254740992 → tf a = tf a ∧ -9007199254740992 ≤ a ∧ a ≤ 9007199254740992 := fun h1 h2 => ⟨rfl, h1, h2⟩
  rcases Int.lt_trichotomy a b with hab | hab | hab
  · by_cases h1 : a < -9007199254740992
    · exact lawKeeps_lt_lo a b _ _ w _ _ _ hab h1 t1 t2 (n1 (by omega)) HT HL HB HW
    · by_cases h2 : a < 9007199254740992
      · exact lawKeeps_lt_in a b _ _ w _ _ _ hab (by omega) h2 t1 t2 (n1 (by omega)) (n3 hab (by omega) h2) (bk (by omega) (by omega)) HT HL HB HW
      · by_cases h3 : a = 9007199254740992
        · exact lawKeeps_lt_top a b _ _ w _ _ _ hab h3 t1 t2 (n1 (by omega)) (bk (by omega) (by omega)) HT HL HB HW
        · exact lawKeeps_lt_hi a b _ _ w _ _ _ hab (by omega) t1 t2 (n1 (by omega)) HT HL HB HW
  · by_cases h1 : a < -9007199254740992
    · exact lawKeeps_eq_lo a b _ _ w _ _ _ hab h1 t1 t2 (n1 (by omega)) (n2 (by omega)) HT HL HB HW
    · by_cases h2 : a < 9007199254740992
      · exact lawKeeps_eq_in a b _ _ w _ _ _ hab (by omega) h2 t1 t2 (n1 (by omega)) (n2 (by omega)) (bk (by omega) (by omega)) HT HL HB HW
      · by_cases h3 : a = 9007199254740992
        · exact lawKeeps_eq_top a b _ _ w _ _ _ hab h3 t1 t2 (n1 (by omega)) (n2 (by omega)) (bk (by omega) (by omega)) HT HL HB HW
        · exact lawKeeps_eq_hi a b _ _ w _ _ _ hab (by omega) t1 t2 (n1 (by omega)) (n2 (by omega)) HT HL HB HW
  · by_cases h1 : a < -9007199254740992
    · exact lawKeeps_gt_lo a b _ _ w _ _ _ hab h1 t1 t2 (n2 (by omega)) HT HL HB HW
    · by_cases h2 : a < 9007199254740992
      · exact lawKeeps_gt_in a b _ _ w _ _ _ hab (by omega) h2 t1 t2 (n2 (by omega)) (bk (by omega) (by omega)) HT HL HB HW
      · by_cases h3 : a = 9007199254740992
        · exact lawKeeps_gt_top a b _ _ w _ _ _ hab h3 t1 t2 (n2 (by omega)) (bk (by omega) (by omega)) HT HL HB HW
        · exact lawKeeps_gt_hi a b _ _ w _ _ _ hab (by omega) t1 t2 (n2 (by omega)) HT HL HB HW
end Go.Proofs.YtoonneminimbfaaGreatDoor
