/- The law NumFloats. -/
import Derived.Test.YtoonneminimbfaaGreatDoorFOps
import Derived.Test.YtoonneminimbfaaGreatDoorBack
namespace Go.Proofs.YtoonneminimbfaaGreatDoor
open Go.RowKit
set_option linter.unusedVariables false
set_option linter.unusedSimpArgs false

structure Flo (a b g h : Nat) (w : World) (l eq : Bool) (s1 s2 s3 s4 s5 : ByteArray) (SH SR : Nat → ByteArray → Prop) (RA : Nat → ByteArray → Prop) (NG : Nat → Nat → Prop) : Prop where
  a1 : ∀ w', Below w.heap.size w w' → Calls Tryz.prog 35 #[.float .f64 a, .float .f64 b] w' fun e w'' => (∃ r, e = .returned (.float .f64 r) ∧ SH r s1) ∧ Below w.heap.size w w''
  a2 : ∀ w', Below w.heap.size w w' → Calls Tryz.prog 34 #[.float .f64 a, .float .f64 b] w' fun e w'' => (∃ r, e = .returned (.float .f64 r) ∧ SH r s2) ∧ Below w.heap.size w w''
  a3 : ∀ w', Below w.heap.size w w' → Calls Tryz.prog 36 #[.float .f64 a, .float .f64 b] w' fun e w'' => (∃ r, e = .returned (.float .f64 r) ∧ SH r s3) ∧ Below w.heap.size w w''
  a4 : ∀ w', Below w.heap.size w w' → Calls Tryz.prog 41 #[.float .f64 a, .float .f64 b] w' fun e w'' => (∃ r, e = .returned (.float .f64 r) ∧ SH r s4) ∧ Below w.heap.size w w''
  r1 : ∀ y s w', RA y s → Below w.heap.size w w' → Calls Tryz.prog 38 #[.int .u64 a, .int .u64 y] w' fun e w'' => (∃ v : Nat, e = .returned (.int .u64 v) ∧ SR v s) ∧ Below w.heap.size w w''
  r3 : ∀ w', Below w.heap.size w w' → Calls Tryz.prog 40 #[.int .u64 a, .int .u64 b] w' fun e w'' => (∃ v : Nat, e = .returned (.int .u64 v) ∧ SR v s3) ∧ Below w.heap.size w w''
  r4 : ∀ w', Below w.heap.size w w' → Calls Tryz.prog 42 #[.int .u64 a, .int .u64 b] w' fun e w'' => (∃ v : Nat, e = .returned (.int .u64 v) ∧ SR v s4) ∧ Below w.heap.size w w''
  n1 : ∀ w', Calls Tryz.prog 37 #[.float .f64 a] w' fun e w'' => e = .returned (.float .f64 h) ∧ w' = w''
  n2 : ∀ x y w', NG x y → Calls Tryz.prog 39 #[.int .u64 x] w' fun e w'' => e = .returned (.int .u64 y) ∧ w' = w''
  tsh : ∀ r s w', SH r s → Below w.heap.size w w' → Calls Tryz.prog 21 #[.float .f64 r] w' fun e w'' => e = .returned (.string s) ∧ Below w.heap.size w w''
  tsr : ∀ (r : Nat) s w', SR r s → Below w.heap.size w w' → Calls Tryz.prog 23 #[.int .u64 r] w' fun e w'' => e = .returned (.string s) ∧ Below w.heap.size w w''
  l1 : ∀ w', Calls Tryz.prog 25 #[.float .f64 a, .float .f64 b] w' fun e w'' => e = .returned (.bool l) ∧ w' = w''
  l2 : ∀ w', Calls Tryz.prog 43 #[.int .u64 a, .int .u64 b] w' fun e w'' => e = .returned (.bool l) ∧ w' = w''
  e1 : ∀ w', Calls Tryz.prog 33 #[.float .f64 a, .float .f64 b] w' fun e w'' => e = .returned (.bool eq) ∧ w' = w''
  e2 : ∀ w', Calls Tryz.prog 44 #[.int .u64 a, .int .u64 b] w' fun e w'' => e = .returned (.bool eq) ∧ w' = w''
  wk : ∀ w', Below w.heap.size w w' → Calls Tryz.prog 18 #[] w' fun e w'' => e = .returned (.bool true) ∧ Below w.heap.size w w''
  ra1 : RA b s1
  ra2 : RA g s2
  ng1 : NG b g
  ng2 : NG a h
  sh5 : SH h s5
  sr5 : SR h s5

set_option maxRecDepth 1000000 in
set_option maxHeartbeats 3200000 in
theorem lawFloats_core (a b g h : Nat) (w : World) (l eq : Bool) (s1 s2 s3 s4 s5 : ByteArray) (SH SR : Nat → ByteArray → Prop) (RA : Nat → ByteArray → Prop) (NG : Nat → Nat → Prop) (H : Flo a b g h w l eq s1 s2 s3 s4 s5 SH SR RA NG) :
    Calls Tryz.prog 9 #[.int .u64 a, .int .u64 b] w fun e w' => e = .returned (.bool true) ∧ Below w.heap.size w w' := by
  have hb0 : Below w.heap.size w w := Below.refl _ _
  have fa := frombits_run a
  have fb := frombits_run b
  have hra1 := H.ra1
  have hra2 := H.ra2
  have hng1 := H.ng1
  have hng2 := H.ng2
  have hsh5 := H.sh5
  have hsr5 := H.sr5
  have A1 := Lib.hid H.a1
  have A2 := Lib.hid H.a2
  have A3 := Lib.hid H.a3
  have A4 := Lib.hid H.a4
  have R1 := Lib.hid H.r1
  have R3 := Lib.hid H.r3
  have R4 := Lib.hid H.r4
  have N1 := Lib.hid H.n1
  have N2 := Lib.hid H.n2
  have TSH := Lib.hid H.tsh
  have TSR := Lib.hid H.tsr
  have L1 := Lib.hid H.l1
  have L2 := Lib.hid H.l2
  have E1 := Lib.hid H.e1
  have E2 := Lib.hid H.e2
  have WK := Lib.hid H.wk
  clear H
  cases l <;> cases eq
  all_goals
    go_enter Tryz.func9, Tryz.ntmps9
    go_wp2_with (first | (go_at_call 35; refine Calls.mono (A1.out _ (by assumption)) ?_; rintro e wx ⟨⟨r1, rfl, hs1⟩, hb1⟩) | (go_at_call 34; refine Calls.mono (A2.out _ (by assumption)) ?_; rintro e wx ⟨⟨r2, rfl, hs2⟩, hb2⟩) | (go_at_call 36; refine Calls.mono (A3.out _ (by assumption)) ?_; rintro e wx ⟨⟨r3, rfl, hs3⟩, hb3⟩) | (go_at_call 41; refine Calls.mono (A4.out _ (by assumption)) ?_; rintro e wx ⟨⟨r4, rfl, hs4⟩, hb4⟩) | (go_at_call 38; refine Calls.mono (R1.out _ _ _ (by assumption) (by assumption)) ?_; rintro e wx ⟨⟨v1, rfl, hv1⟩, hb5⟩) | (go_at_call 40; refine Calls.mono (R3.out _ (by assumption)) ?_; rintro e wx ⟨⟨v3, rfl, hv3⟩, hb6⟩) | (go_at_call 42; refine Calls.mono (R4.out _ (by assumption)) ?_; rintro e wx ⟨⟨v4, rfl, hv4⟩, hb7⟩) | (go_at_call 37; refine Calls.mono (N1.out _) ?_; rintro e wx ⟨rfl, rfl⟩) | (go_at_call 39; refine Calls.mono (N2.out _ _ _ (by assumption)) ?_; rintro e wx ⟨rfl, rfl⟩) | (go_at_call 21; refine Calls.mono (TSH.out _ _ _ (by assumption) (by assumption)) ?_; rintro e wx ⟨rfl, hb8⟩) | (go_at_call 23; refine Calls.mono (TSR.out _ _ _ (by assumption) (by assumption)) ?_; rintro e wx ⟨rfl, hb9⟩) | (go_at_call 25; refine Calls.mono (L1.out _) ?_; rintro e wx ⟨rfl, rfl⟩) | (go_at_call 43; refine Calls.mono (L2.out _) ?_; rintro e wx ⟨rfl, rfl⟩) | (go_at_call 33; refine Calls.mono (E1.out _) ?_; rintro e wx ⟨rfl, rfl⟩) | (go_at_call 44; refine Calls.mono (E2.out _) ?_; rintro e wx ⟨rfl, rfl⟩) | (go_at_call 18; refine Calls.mono (WK.out _ (by assumption)) ?_; rintro e wx ⟨rfl, hb10⟩))
    go_ret
    exact ⟨rfl, by assumption⟩

def SRv (v : Nat) (s : ByteArray) : Prop := v < 18446744073709551616 ∧ wide (canon v) = s
theorem srv_of {w w' : World} {f : FuncId} {args : Array Value} {op : BinOp} {a b : Nat} {s : ByteArray} (hs : wide (showC (floatBits op .f64 a b)) = s) (hb : Below w.heap.size w w') (h : Calls Tryz.prog f args w' fun e w'' => FO op a b e ∧ Below w'.heap.size w' w'') :
    Calls Tryz.prog f args w' fun e w'' => (∃ v : Nat, e = .returned (.int .u64 v) ∧ SRv v s) ∧ Below w.heap.size w w'' :=
  h.mono fun e w'' ⟨⟨v, he, hv, ho⟩, hb'⟩ => ⟨⟨v, he, hv, by rw [outF_show ho]; exact hs⟩, hb.trans (hb'.mono hb.size)⟩

theorem lawFloats (a b : Nat) (w : World) (ha : a < 18446744073709551616) (hb : b < 18446744073709551616) (h : Glob w) :
    Calls Tryz.prog 9 #[.int .u64 a, .int .u64 b] w fun e w' => e = .returned (.bool true) ∧ Below w.heap.size w w' := by
  refine lawFloats_core a b (fnegV b) (fnegV a) w (fltB a b) (feqB a b) _ _ _ _ _ ShowsAs SRv (fun y s => y < 18446744073709551616 ∧ wide (showC (floatBits .add .f64 a y)) = s) (fun x y => x < 18446744073709551616 ∧ fnegV x = y)
    { a1 := fun w' hb' => shows_of rfl hb' (fadd_any a b w')
      a2 := fun w' hb' => shows_of rfl hb' (fsub_any a b w')
      a3 := fun w' hb' => shows_of rfl hb' (fmul_any a b w')
      a4 := fun w' hb' => shows_of rfl hb' (fdiv_any a b w')
      r1 := fun y s w' hy hb' => srv_of hy.2 hb' (refFAdd_any a y ha hy.1 w')
      r3 := fun w' hb' => srv_of rfl hb' (refFMul_any a b ha hb w')
      r4 := fun w' hb' => srv_of rfl hb' (refFDiv_any a b ha hb w')
      n1 := fun w' => fneg_any a w'
      n2 := fun x y w' hy => by obtain ⟨h1, rfl⟩ := hy; exact refFNeg_any x h1 w'
      tsh := fun r s w' hs hb' => by obtain ⟨h1, rfl⟩ := hs; exact later hb' (show_all r h1 w' (h.below hb'))
      tsr := fun r s w' hs hb' => by obtain ⟨h1, rfl⟩ := hs; exact later hb' (refShow_all r h1 w')
      l1 := fun w' => fless_any a b w'
      l2 := fun w' => refFLess_any a b ha hb w'
      e1 := fun w' => fequal_any a b w'
      e2 := fun w' => refFEqual_any a b ha hb w'
      wk := fun w' hb' => glob_awake w w' h hb'
      ra1 := ⟨hb, rfl⟩
      ra2 := ⟨fneg_lt b hb, by rw [sub_fneg hb]⟩
      ng1 := ⟨hb, rfl⟩
      ng2 := ⟨ha, rfl⟩
      sh5 := ⟨fneg_lt a ha, rfl⟩
      sr5 := ⟨fneg_lt a ha, rfl⟩ }
end Go.Proofs.YtoonneminimbfaaGreatDoor
