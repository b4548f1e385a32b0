/- The law NumOrder. -/
import Derived.Test.YtoonneminimbfaaGreatDoorOrder0
namespace Go.Proofs.YtoonneminimbfaaGreatDoor
open Go.RowKit
set_option linter.unusedVariables false
set_option linter.unusedSimpArgs false

theorem nan_ne {a : ByteArray} (h : ¬ a = (⟨#[55, 102, 102, 56, 48, 48, 48, 48, 48, 48, 48, 48, 48, 48, 48, 49]⟩ : ByteArray)) : (a.toList == [55, 102, 102, 56, 48, 48, 48, 48, 48, 48, 48, 48, 48, 48, 48, 49]) = false := by
  refine beq_eq_false_iff_ne.2 fun e => h ?_
  rw [ByteArray.toList_eq] at e
  apply ByteArray.ext
  rw [← Array.toList_inj]
  exact e

set_option maxRecDepth 1000000 in
set_option maxHeartbeats 1600000 in
theorem lawOrder_nan (a b g : Nat) (w : World) (sb xa xm : ByteArray) (SH : Nat → ByteArray → Prop) (LT : Nat → Nat → Bool → Prop) (AD MU : Nat → Nat → ByteArray → Prop) (NG : Nat → Nat → Prop) (H : Ord a b g w false (⟨#[55, 102, 102, 56, 48, 48, 48, 48, 48, 48, 48, 48, 48, 48, 48, 49]⟩ : ByteArray) SH LT AD MU NG)
    (hs1 : SH a (⟨#[55, 102, 102, 56, 48, 48, 48, 48, 48, 48, 48, 48, 48, 48, 48, 49]⟩ : ByteArray)) (hs2 : SH b sb) (hl1 : LT a b false) (hl2 : LT b a false) (hd1 : AD a b xa) (hd2 : AD b a xa) (hm1 : MU a b xm) (hm2 : MU b a xm) :
    Calls Tryz.prog 8 #[.int .u64 a, .int .u64 b] w fun e w' => e = .returned (.bool true) ∧ Below w.heap.size w w' := by
  have hb0 : Below w.heap.size w w := Below.refl _ _
  have fa := frombits_run a
  have fb := frombits_run b
  have hn1 := H.ng
  have hn2 := H.ng2
  have L1 := Lib.hid H.l1
  have L3 := Lib.hid H.l3
  have S1 := Lib.hid H.s1
  have M1 := Lib.hid H.m1
  have A1 := Lib.hid H.a1
  have P1 := Lib.hid H.p1
  have N1 := Lib.hid H.n1
  have WK := Lib.hid H.wk
  clear H
  go_enter Tryz.func8, Tryz.ntmps8
  go_wp2_with (first | (go_at_call 25; refine Calls.mono (L1.out _ _ _ _ (by assumption)) ?_; rintro e w1 ⟨rfl, rfl⟩) | (go_at_call 33; refine Calls.mono (L3.out _) ?_; rintro e w1 ⟨rfl, rfl⟩) | (go_at_call 21; refine Calls.mono (S1.out _ _ _ (by assumption) (by assumption)) ?_; rintro e w1 ⟨rfl, hb1⟩) | (go_at_call 34; refine Calls.mono (M1.out _ (by assumption)) ?_; rintro e w1 ⟨⟨r, rfl, hr⟩, hb1⟩) | (go_at_call 35; refine Calls.mono (A1.out _ _ _ _ (by assumption) (by assumption)) ?_; rintro e w1 ⟨⟨r, rfl, hr⟩, hb1⟩) | (go_at_call 36; refine Calls.mono (P1.out _ _ _ _ (by assumption) (by assumption)) ?_; rintro e w1 ⟨⟨r, rfl, hr⟩, hb1⟩) | (go_at_call 37; refine Calls.mono (N1.out _ _ _ (by assumption)) ?_; rintro e w1 ⟨rfl, rfl⟩) | (go_at_call 18; refine Calls.mono (WK.out _ (by assumption)) ?_; rintro e w1 ⟨rfl, hb1⟩))
  go_ret
  exact ⟨rfl, by assumption⟩

set_option maxRecDepth 1000000 in
set_option maxHeartbeats 1600000 in
theorem lawOrder_nan2 (a b g : Nat) (w : World) (sb xa xm : ByteArray) (SH : Nat → ByteArray → Prop) (LT : Nat → Nat → Bool → Prop) (AD MU : Nat → Nat → ByteArray → Prop) (NG : Nat → Nat → Prop) (H : Ord a b g w false (⟨#[48, 48, 48, 48, 48, 48, 48, 48, 48, 48, 48, 48, 48, 48, 48, 48]⟩ : ByteArray) SH LT AD MU NG)
    (hs1 : SH a (⟨#[55, 102, 102, 56, 48, 48, 48, 48, 48, 48, 48, 48, 48, 48, 48, 49]⟩ : ByteArray)) (hs2 : SH b sb) (hl1 : LT a b false) (hl2 : LT b a false) (hd1 : AD a b xa) (hd2 : AD b a xa) (hm1 : MU a b xm) (hm2 : MU b a xm) :
    Calls Tryz.prog 8 #[.int .u64 a, .int .u64 b] w fun e w' => e = .returned (.bool true) ∧ Below w.heap.size w w' := by
  have hb0 : Below w.heap.size w w := Below.refl _ _
  have fa := frombits_run a
  have fb := frombits_run b
  have hn1 := H.ng
  have hn2 := H.ng2
  have L1 := Lib.hid H.l1
  have L3 := Lib.hid H.l3
  have S1 := Lib.hid H.s1
  have M1 := Lib.hid H.m1
  have A1 := Lib.hid H.a1
  have P1 := Lib.hid H.p1
  have N1 := Lib.hid H.n1
  have WK := Lib.hid H.wk
  clear H
  go_enter Tryz.func8, Tryz.ntmps8
  go_wp2_with (first | (go_at_call 25; refine Calls.mono (L1.out _ _ _ _ (by assumption)) ?_; rintro e w1 ⟨rfl, rfl⟩) | (go_at_call 33; refine Calls.mono (L3.out _) ?_; rintro e w1 ⟨rfl, rfl⟩) | (go_at_call 21; refine Calls.mono (S1.out _ _ _ (by assumption) (by assumption)) ?_; rintro e w1 ⟨rfl, hb1⟩) | (go_at_call 34; refine Calls.mono (M1.out _ (by assumption)) ?_; rintro e w1 ⟨⟨r, rfl, hr⟩, hb1⟩) | (go_at_call 35; refine Calls.mono (A1.out _ _ _ _ (by assumption) (by assumption)) ?_; rintro e w1 ⟨⟨r, rfl, hr⟩, hb1⟩) | (go_at_call 36; refine Calls.mono (P1.out _ _ _ _ (by assumption) (by assumption)) ?_; rintro e w1 ⟨⟨r, rfl, hr⟩, hb1⟩) | (go_at_call 37; refine Calls.mono (N1.out _ _ _ (by assumption)) ?_; rintro e w1 ⟨rfl, rfl⟩) | (go_at_call 18; refine Calls.mono (WK.out _ (by assumption)) ?_; rintro e w1 ⟨rfl, hb1⟩))
  go_ret
  exact ⟨rfl, by assumption⟩

set_option maxRecDepth 1000000 in
set_option maxHeartbeats 1600000 in
theorem lawOrder_bz (a b g : Nat) (w : World) (sa xa xm : ByteArray) (SH : Nat → ByteArray → Prop) (LT : Nat → Nat → Bool → Prop) (AD MU : Nat → Nat → ByteArray → Prop) (NG : Nat → Nat → Prop) (ha : ¬ sa = (⟨#[55, 102, 102, 56, 48, 48, 48, 48, 48, 48, 48, 48, 48, 48, 48, 49]⟩ : ByteArray)) (H : Ord a b g w false (⟨#[48, 48, 48, 48, 48, 48, 48, 48, 48, 48, 48, 48, 48, 48, 48, 48]⟩ : ByteArray) SH LT AD MU NG)
    (hs1 : SH a sa) (hs2 : SH b (⟨#[55, 102, 102, 56, 48, 48, 48, 48, 48, 48, 48, 48, 48, 48, 48, 49]⟩ : ByteArray)) (hl1 : LT a b false) (hl2 : LT b a false) (hd1 : AD a b xa) (hd2 : AD b a xa) (hm1 : MU a b xm) (hm2 : MU b a xm) :
    Calls Tryz.prog 8 #[.int .u64 a, .int .u64 b] w fun e w' => e = .returned (.bool true) ∧ Below w.heap.size w w' := by
  have hb0 : Below w.heap.size w w := Below.refl _ _
  have fa := frombits_run a
  have fb := frombits_run b
  have hn1 := H.ng
  have hn2 := H.ng2
  have L1 := Lib.hid H.l1
  have L3 := Lib.hid H.l3
  have S1 := Lib.hid H.s1
  have M1 := Lib.hid H.m1
  have A1 := Lib.hid H.a1
  have P1 := Lib.hid H.p1
  have N1 := Lib.hid H.n1
  have WK := Lib.hid H.wk
  have ha2 := nan_ne ha
  clear ha
  clear H
  go_enter Tryz.func8, Tryz.ntmps8
  go_wp2_with (first | (go_at_call 25; refine Calls.mono (L1.out _ _ _ _ (by assumption)) ?_; rintro e w1 ⟨rfl, rfl⟩) | (go_at_call 33; refine Calls.mono (L3.out _) ?_; rintro e w1 ⟨rfl, rfl⟩) | (go_at_call 21; refine Calls.mono (S1.out _ _ _ (by assumption) (by assumption)) ?_; rintro e w1 ⟨rfl, hb1⟩) | (go_at_call 34; refine Calls.mono (M1.out _ (by assumption)) ?_; rintro e w1 ⟨⟨r, rfl, hr⟩, hb1⟩) | (go_at_call 35; refine Calls.mono (A1.out _ _ _ _ (by assumption) (by assumption)) ?_; rintro e w1 ⟨⟨r, rfl, hr⟩, hb1⟩) | (go_at_call 36; refine Calls.mono (P1.out _ _ _ _ (by assumption) (by assumption)) ?_; rintro e w1 ⟨⟨r, rfl, hr⟩, hb1⟩) | (go_at_call 37; refine Calls.mono (N1.out _ _ _ (by assumption)) ?_; rintro e w1 ⟨rfl, rfl⟩) | (go_at_call 18; refine Calls.mono (WK.out _ (by assumption)) ?_; rintro e w1 ⟨rfl, hb1⟩))
  go_ret
  exact ⟨rfl, by assumption⟩

set_option maxRecDepth 1000000 in
set_option maxHeartbeats 1600000 in
theorem lawOrder_ltz (a b g : Nat) (w : World) (sa sb xa xm : ByteArray) (SH : Nat → ByteArray → Prop) (LT : Nat → Nat → Bool → Prop) (AD MU : Nat → Nat → ByteArray → Prop) (NG : Nat → Nat → Prop) (ha : ¬ sa = (⟨#[55, 102, 102, 56, 48, 48, 48, 48, 48, 48, 48, 48, 48, 48, 48, 49]⟩ : ByteArray)) (hb : ¬ sb = (⟨#[55, 102, 102, 56, 48, 48, 48, 48, 48, 48, 48, 48, 48, 48, 48, 49]⟩ : ByteArray)) (H : Ord a b g w false (⟨#[48, 48, 48, 48, 48, 48, 48, 48, 48, 48, 48, 48, 48, 48, 48, 48]⟩ : ByteArray) SH LT AD MU NG)
    (hs1 : SH a sa) (hs2 : SH b sb) (hl1 : LT a b true) (hl2 : LT b a false) (hd1 : AD a b xa) (hd2 : AD b a xa) (hm1 : MU a b xm) (hm2 : MU b a xm) :
    Calls Tryz.prog 8 #[.int .u64 a, .int .u64 b] w fun e w' => e = .returned (.bool true) ∧ Below w.heap.size w w' := by
  have hb0 : Below w.heap.size w w := Below.refl _ _
  have fa := frombits_run a
  have fb := frombits_run b
  have hn1 := H.ng
  have hn2 := H.ng2
  have L1 := Lib.hid H.l1
  have L3 := Lib.hid H.l3
  have S1 := Lib.hid H.s1
  have M1 := Lib.hid H.m1
  have A1 := Lib.hid H.a1
  have P1 := Lib.hid H.p1
  have N1 := Lib.hid H.n1
  have WK := Lib.hid H.wk
  have ha2 := nan_ne ha
  clear ha
  have hb2 := nan_ne hb
  clear hb
  clear H
  go_enter Tryz.func8, Tryz.ntmps8
  go_wp2_with (first | (go_at_call 25; refine Calls.mono (L1.out _ _ _ _ (by assumption)) ?_; rintro e w1 ⟨rfl, rfl⟩) | (go_at_call 33; refine Calls.mono (L3.out _) ?_; rintro e w1 ⟨rfl, rfl⟩) | (go_at_call 21; refine Calls.mono (S1.out _ _ _ (by assumption) (by assumption)) ?_; rintro e w1 ⟨rfl, hb1⟩) | (go_at_call 34; refine Calls.mono (M1.out _ (by assumption)) ?_; rintro e w1 ⟨⟨r, rfl, hr⟩, hb1⟩) | (go_at_call 35; refine Calls.mono (A1.out _ _ _ _ (by assumption) (by assumption)) ?_; rintro e w1 ⟨⟨r, rfl, hr⟩, hb1⟩) | (go_at_call 36; refine Calls.mono (P1.out _ _ _ _ (by assumption) (by assumption)) ?_; rintro e w1 ⟨⟨r, rfl, hr⟩, hb1⟩) | (go_at_call 37; refine Calls.mono (N1.out _ _ _ (by assumption)) ?_; rintro e w1 ⟨rfl, rfl⟩) | (go_at_call 18; refine Calls.mono (WK.out _ (by assumption)) ?_; rintro e w1 ⟨rfl, hb1⟩))
  go_ret
  exact ⟨rfl, by assumption⟩

set_option maxRecDepth 1000000 in
set_option maxHeartbeats 1600000 in
theorem lawOrder_gtz (a b g : Nat) (w : World) (sa sb xa xm : ByteArray) (SH : Nat → ByteArray → Prop) (LT : Nat → Nat → Bool → Prop) (AD MU : Nat → Nat → ByteArray → Prop) (NG : Nat → Nat → Prop) (ha : ¬ sa = (⟨#[55, 102, 102, 56, 48, 48, 48, 48, 48, 48, 48, 48, 48, 48, 48, 49]⟩ : ByteArray)) (hb : ¬ sb = (⟨#[55, 102, 102, 56, 48, 48, 48, 48, 48, 48, 48, 48, 48, 48, 48, 49]⟩ : ByteArray)) (H : Ord a b g w false (⟨#[48, 48, 48, 48, 48, 48, 48, 48, 48, 48, 48, 48, 48, 48, 48, 48]⟩ : ByteArray) SH LT AD MU NG)
    (hs1 : SH a sa) (hs2 : SH b sb) (hl1 : LT a b false) (hl2 : LT b a true) (hd1 : AD a b xa) (hd2 : AD b a xa) (hm1 : MU a b xm) (hm2 : MU b a xm) :
    Calls Tryz.prog 8 #[.int .u64 a, .int .u64 b] w fun e w' => e = .returned (.bool true) ∧ Below w.heap.size w w' := by
  have hb0 : Below w.heap.size w w := Below.refl _ _
  have fa := frombits_run a
  have fb := frombits_run b
  have hn1 := H.ng
  have hn2 := H.ng2
  have L1 := Lib.hid H.l1
  have L3 := Lib.hid H.l3
  have S1 := Lib.hid H.s1
  have M1 := Lib.hid H.m1
  have A1 := Lib.hid H.a1
  have P1 := Lib.hid H.p1
  have N1 := Lib.hid H.n1
  have WK := Lib.hid H.wk
  have ha2 := nan_ne ha
  clear ha
  have hb2 := nan_ne hb
  clear hb
  clear H
  go_enter Tryz.func8, Tryz.ntmps8
  go_wp2_with (first | (go_at_call 25; refine Calls.mono (L1.out _ _ _ _ (by assumption)) ?_; rintro e w1 ⟨rfl, rfl⟩) | (go_at_call 33; refine Calls.mono (L3.out _) ?_; rintro e w1 ⟨rfl, rfl⟩) | (go_at_call 21; refine Calls.mono (S1.out _ _ _ (by assumption) (by assumption)) ?_; rintro e w1 ⟨rfl, hb1⟩) | (go_at_call 34; refine Calls.mono (M1.out _ (by assumption)) ?_; rintro e w1 ⟨⟨r, rfl, hr⟩, hb1⟩) | (go_at_call 35; refine Calls.mono (A1.out _ _ _ _ (by assumption) (by assumption)) ?_; rintro e w1 ⟨⟨r, rfl, hr⟩, hb1⟩) | (go_at_call 36; refine Calls.mono (P1.out _ _ _ _ (by assumption) (by assumption)) ?_; rintro e w1 ⟨⟨r, rfl, hr⟩, hb1⟩) | (go_at_call 37; refine Calls.mono (N1.out _ _ _ (by assumption)) ?_; rintro e w1 ⟨rfl, rfl⟩) | (go_at_call 18; refine Calls.mono (WK.out _ (by assumption)) ?_; rintro e w1 ⟨rfl, hb1⟩))
  go_ret
  exact ⟨rfl, by assumption⟩

set_option maxRecDepth 1000000 in
set_option maxHeartbeats 1600000 in
theorem lawOrder_eqz (a b g : Nat) (w : World) (sa sb xa xm : ByteArray) (SH : Nat → ByteArray → Prop) (LT : Nat → Nat → Bool → Prop) (AD MU : Nat → Nat → ByteArray → Prop) (NG : Nat → Nat → Prop) (ha : ¬ sa = (⟨#[55, 102, 102, 56, 48, 48, 48, 48, 48, 48, 48, 48, 48, 48, 48, 49]⟩ : ByteArray)) (hb : ¬ sb = (⟨#[55, 102, 102, 56, 48, 48, 48, 48, 48, 48, 48, 48, 48, 48, 48, 49]⟩ : ByteArray)) (H : Ord a b g w true (⟨#[48, 48, 48, 48, 48, 48, 48, 48, 48, 48, 48, 48, 48, 48, 48, 48]⟩ : ByteArray) SH LT AD MU NG)
    (hs1 : SH a sa) (hs2 : SH b sb) (hl1 : LT a b false) (hl2 : LT b a false) (hd1 : AD a b xa) (hd2 : AD b a xa) (hm1 : MU a b xm) (hm2 : MU b a xm) :
    Calls Tryz.prog 8 #[.int .u64 a, .int .u64 b] w fun e w' => e = .returned (.bool true) ∧ Below w.heap.size w w' := by
  have hb0 : Below w.heap.size w w := Below.refl _ _
  have fa := frombits_run a
  have fb := frombits_run b
  have hn1 := H.ng
  have hn2 := H.ng2
  have L1 := Lib.hid H.l1
  have L3 := Lib.hid H.l3
  have S1 := Lib.hid H.s1
  have M1 := Lib.hid H.m1
  have A1 := Lib.hid H.a1
  have P1 := Lib.hid H.p1
  have N1 := Lib.hid H.n1
  have WK := Lib.hid H.wk
  have ha2 := nan_ne ha
  clear ha
  have hb2 := nan_ne hb
  clear hb
  clear H
  go_enter Tryz.func8, Tryz.ntmps8
  go_wp2_with (first | (go_at_call 25; refine Calls.mono (L1.out _ _ _ _ (by assumption)) ?_; rintro e w1 ⟨rfl, rfl⟩) | (go_at_call 33; refine Calls.mono (L3.out _) ?_; rintro e w1 ⟨rfl, rfl⟩) | (go_at_call 21; refine Calls.mono (S1.out _ _ _ (by assumption) (by assumption)) ?_; rintro e w1 ⟨rfl, hb1⟩) | (go_at_call 34; refine Calls.mono (M1.out _ (by assumption)) ?_; rintro e w1 ⟨⟨r, rfl, hr⟩, hb1⟩) | (go_at_call 35; refine Calls.mono (A1.out _ _ _ _ (by assumption) (by assumption)) ?_; rintro e w1 ⟨⟨r, rfl, hr⟩, hb1⟩) | (go_at_call 36; refine Calls.mono (P1.out _ _ _ _ (by assumption) (by assumption)) ?_; rintro e w1 ⟨⟨r, rfl, hr⟩, hb1⟩) | (go_at_call 37; refine Calls.mono (N1.out _ _ _ (by assumption)) ?_; rintro e w1 ⟨rfl, rfl⟩) | (go_at_call 18; refine Calls.mono (WK.out _ (by assumption)) ?_; rintro e w1 ⟨rfl, hb1⟩))
  go_ret
  exact ⟨rfl, by assumption⟩

set_option maxRecDepth 1000000 in
set_option maxHeartbeats 1600000 in
theorem lawOrder_bn (a b g : Nat) (w : World) (sa xa xm : ByteArray) (SH : Nat → ByteArray → Prop) (LT : Nat → Nat → Bool → Prop) (AD MU : Nat → Nat → ByteArray → Prop) (NG : Nat → Nat → Prop) (ha : ¬ sa = (⟨#[55, 102, 102, 56, 48, 48, 48, 48, 48, 48, 48, 48, 48, 48, 48, 49]⟩ : ByteArray)) (H : Ord a b g w false (⟨#[55, 102, 102, 56, 48, 48, 48, 48, 48, 48, 48, 48, 48, 48, 48, 49]⟩ : ByteArray) SH LT AD MU NG)
    (hs1 : SH a sa) (hs2 : SH b (⟨#[55, 102, 102, 56, 48, 48, 48, 48, 48, 48, 48, 48, 48, 48, 48, 49]⟩ : ByteArray)) (hl1 : LT a b false) (hl2 : LT b a false) (hd1 : AD a b xa) (hd2 : AD b a xa) (hm1 : MU a b xm) (hm2 : MU b a xm) :
    Calls Tryz.prog 8 #[.int .u64 a, .int .u64 b] w fun e w' => e = .returned (.bool true) ∧ Below w.heap.size w w' := by
  have hb0 : Below w.heap.size w w := Below.refl _ _
  have fa := frombits_run a
  have fb := frombits_run b
  have hn1 := H.ng
  have hn2 := H.ng2
  have L1 := Lib.hid H.l1
  have L3 := Lib.hid H.l3
  have S1 := Lib.hid H.s1
  have M1 := Lib.hid H.m1
  have A1 := Lib.hid H.a1
  have P1 := Lib.hid H.p1
  have N1 := Lib.hid H.n1
  have WK := Lib.hid H.wk
  have ha2 := nan_ne ha
  clear ha
  clear H
  go_enter Tryz.func8, Tryz.ntmps8
  go_wp2_with (first | (go_at_call 25; refine Calls.mono (L1.out _ _ _ _ (by assumption)) ?_; rintro e w1 ⟨rfl, rfl⟩) | (go_at_call 33; refine Calls.mono (L3.out _) ?_; rintro e w1 ⟨rfl, rfl⟩) | (go_at_call 21; refine Calls.mono (S1.out _ _ _ (by assumption) (by assumption)) ?_; rintro e w1 ⟨rfl, hb1⟩) | (go_at_call 34; refine Calls.mono (M1.out _ (by assumption)) ?_; rintro e w1 ⟨⟨r, rfl, hr⟩, hb1⟩) | (go_at_call 35; refine Calls.mono (A1.out _ _ _ _ (by assumption) (by assumption)) ?_; rintro e w1 ⟨⟨r, rfl, hr⟩, hb1⟩) | (go_at_call 36; refine Calls.mono (P1.out _ _ _ _ (by assumption) (by assumption)) ?_; rintro e w1 ⟨⟨r, rfl, hr⟩, hb1⟩) | (go_at_call 37; refine Calls.mono (N1.out _ _ _ (by assumption)) ?_; rintro e w1 ⟨rfl, rfl⟩) | (go_at_call 18; refine Calls.mono (WK.out _ (by assumption)) ?_; rintro e w1 ⟨rfl, hb1⟩))
  go_ret
  exact ⟨rfl, by assumption⟩

set_option maxRecDepth 1000000 in
set_option maxHeartbeats 1600000 in
theorem lawOrder_ltn (a b g : Nat) (w : World) (sa sb xa xm : ByteArray) (SH : Nat → ByteArray → Prop) (LT : Nat → Nat → Bool → Prop) (AD MU : Nat → Nat → ByteArray → Prop) (NG : Nat → Nat → Prop) (ha : ¬ sa = (⟨#[55, 102, 102, 56, 48, 48, 48, 48, 48, 48, 48, 48, 48, 48, 48, 49]⟩ : ByteArray)) (hb : ¬ sb = (⟨#[55, 102, 102, 56, 48, 48, 48, 48, 48, 48, 48, 48, 48, 48, 48, 49]⟩ : ByteArray)) (H : Ord a b g w false (⟨#[55, 102, 102, 56, 48, 48, 48, 48, 48, 48, 48, 48, 48, 48, 48, 49]⟩ : ByteArray) SH LT AD MU NG)
    (hs1 : SH a sa) (hs2 : SH b sb) (hl1 : LT a b true) (hl2 : LT b a false) (hd1 : AD a b xa) (hd2 : AD b a xa) (hm1 : MU a b xm) (hm2 : MU b a xm) :
    Calls Tryz.prog 8 #[.int .u64 a, .int .u64 b] w fun e w' => e = .returned (.bool true) ∧ Below w.heap.size w w' := by
  have hb0 : Below w.heap.size w w := Below.refl _ _
  have fa := frombits_run a
  have fb := frombits_run b
  have hn1 := H.ng
  have hn2 := H.ng2
  have L1 := Lib.hid H.l1
  have L3 := Lib.hid H.l3
  have S1 := Lib.hid H.s1
  have M1 := Lib.hid H.m1
  have A1 := Lib.hid H.a1
  have P1 := Lib.hid H.p1
  have N1 := Lib.hid H.n1
  have WK := Lib.hid H.wk
  have ha2 := nan_ne ha
  clear ha
  have hb2 := nan_ne hb
  clear hb
  clear H
  go_enter Tryz.func8, Tryz.ntmps8
  go_wp2_with (first | (go_at_call 25; refine Calls.mono (L1.out _ _ _ _ (by assumption)) ?_; rintro e w1 ⟨rfl, rfl⟩) | (go_at_call 33; refine Calls.mono (L3.out _) ?_; rintro e w1 ⟨rfl, rfl⟩) | (go_at_call 21; refine Calls.mono (S1.out _ _ _ (by assumption) (by assumption)) ?_; rintro e w1 ⟨rfl, hb1⟩) | (go_at_call 34; refine Calls.mono (M1.out _ (by assumption)) ?_; rintro e w1 ⟨⟨r, rfl, hr⟩, hb1⟩) | (go_at_call 35; refine Calls.mono (A1.out _ _ _ _ (by assumption) (by assumption)) ?_; rintro e w1 ⟨⟨r, rfl, hr⟩, hb1⟩) | (go_at_call 36; refine Calls.mono (P1.out _ _ _ _ (by assumption) (by assumption)) ?_; rintro e w1 ⟨⟨r, rfl, hr⟩, hb1⟩) | (go_at_call 37; refine Calls.mono (N1.out _ _ _ (by assumption)) ?_; rintro e w1 ⟨rfl, rfl⟩) | (go_at_call 18; refine Calls.mono (WK.out _ (by assumption)) ?_; rintro e w1 ⟨rfl, hb1⟩))
  go_ret
  exact ⟨rfl, by assumption⟩

set_option maxRecDepth 1000000 in
set_option maxHeartbeats 1600000 in
theorem lawOrder_gtn (a b g : Nat) (w : World) (sa sb xa xm : ByteArray) (SH : Nat → ByteArray → Prop) (LT : Nat → Nat → Bool → Prop) (AD MU : Nat → Nat → ByteArray → Prop) (NG : Nat → Nat → Prop) (ha : ¬ sa = (⟨#[55, 102, 102, 56, 48, 48, 48, 48, 48, 48, 48, 48, 48, 48, 48, 49]⟩ : ByteArray)) (hb : ¬ sb = (⟨#[55, 102, 102, 56, 48, 48, 48, 48, 48, 48, 48, 48, 48, 48, 48, 49]⟩ : ByteArray)) (H : Ord a b g w false (⟨#[55, 102, 102, 56, 48, 48, 48, 48, 48, 48, 48, 48, 48, 48, 48, 49]⟩ : ByteArray) SH LT AD MU NG)
    (hs1 : SH a sa) (hs2 : SH b sb) (hl1 : LT a b false) (hl2 : LT b a true) (hd1 : AD a b xa) (hd2 : AD b a xa) (hm1 : MU a b xm) (hm2 : MU b a xm) :
    Calls Tryz.prog 8 #[.int .u64 a, .int .u64 b] w fun e w' => e = .returned (.bool true) ∧ Below w.heap.size w w' := by
  have hb0 : Below w.heap.size w w := Below.refl _ _
  have fa := frombits_run a
  have fb := frombits_run b
  have hn1 := H.ng
  have hn2 := H.ng2
  have L1 := Lib.hid H.l1
  have L3 := Lib.hid H.l3
  have S1 := Lib.hid H.s1
  have M1 := Lib.hid H.m1
  have A1 := Lib.hid H.a1
  have P1 := Lib.hid H.p1
  have N1 := Lib.hid H.n1
  have WK := Lib.hid H.wk
  have ha2 := nan_ne ha
  clear ha
  have hb2 := nan_ne hb
  clear hb
  clear H
  go_enter Tryz.func8, Tryz.ntmps8
  go_wp2_with (first | (go_at_call 25; refine Calls.mono (L1.out _ _ _ _ (by assumption)) ?_; rintro e w1 ⟨rfl, rfl⟩) | (go_at_call 33; refine Calls.mono (L3.out _) ?_; rintro e w1 ⟨rfl, rfl⟩) | (go_at_call 21; refine Calls.mono (S1.out _ _ _ (by assumption) (by assumption)) ?_; rintro e w1 ⟨rfl, hb1⟩) | (go_at_call 34; refine Calls.mono (M1.out _ (by assumption)) ?_; rintro e w1 ⟨⟨r, rfl, hr⟩, hb1⟩) | (go_at_call 35; refine Calls.mono (A1.out _ _ _ _ (by assumption) (by assumption)) ?_; rintro e w1 ⟨⟨r, rfl, hr⟩, hb1⟩) | (go_at_call 36; refine Calls.mono (P1.out _ _ _ _ (by assumption) (by assumption)) ?_; rintro e w1 ⟨⟨r, rfl, hr⟩, hb1⟩) | (go_at_call 37; refine Calls.mono (N1.out _ _ _ (by assumption)) ?_; rintro e w1 ⟨rfl, rfl⟩) | (go_at_call 18; refine Calls.mono (WK.out _ (by assumption)) ?_; rintro e w1 ⟨rfl, hb1⟩))
  go_ret
  exact ⟨rfl, by assumption⟩

set_option maxRecDepth 1000000 in
set_option maxHeartbeats 1600000 in
theorem lawOrder_eqn (a b g : Nat) (w : World) (sa sb xa xm : ByteArray) (SH : Nat → ByteArray → Prop) (LT : Nat → Nat → Bool → Prop) (AD MU : Nat → Nat → ByteArray → Prop) (NG : Nat → Nat → Prop) (ha : ¬ sa = (⟨#[55, 102, 102, 56, 48, 48, 48, 48, 48, 48, 48, 48, 48, 48, 48, 49]⟩ : ByteArray)) (hb : ¬ sb = (⟨#[55, 102, 102, 56, 48, 48, 48, 48, 48, 48, 48, 48, 48, 48, 48, 49]⟩ : ByteArray)) (H : Ord a b g w true (⟨#[55, 102, 102, 56, 48, 48, 48, 48, 48, 48, 48, 48, 48, 48, 48, 49]⟩ : ByteArray) SH LT AD MU NG)
    (hs1 : SH a sa) (hs2 : SH b sb) (hl1 : LT a b false) (hl2 : LT b a false) (hd1 : AD a b xa) (hd2 : AD b a xa) (hm1 : MU a b xm) (hm2 : MU b a xm) :
    Calls Tryz.prog 8 #[.int .u64 a, .int .u64 b] w fun e w' => e = .returned (.bool true) ∧ Below w.heap.size w w' := by
  have hb0 : Below w.heap.size w w := Below.refl _ _
  have fa := frombits_run a
  have fb := frombits_run b
  have hn1 := H.ng
  have hn2 := H.ng2
  have L1 := Lib.hid H.l1
  have L3 := Lib.hid H.l3
  have S1 := Lib.hid H.s1
  have M1 := Lib.hid H.m1
  have A1 := Lib.hid H.a1
  have P1 := Lib.hid H.p1
  have N1 := Lib.hid H.n1
  have WK := Lib.hid H.wk
  have ha2 := nan_ne ha
  clear ha
  have hb2 := nan_ne hb
  clear hb
  clear H
  go_enter Tryz.func8, Tryz.ntmps8
  go_wp2_with (first | (go_at_call 25; refine Calls.mono (L1.out _ _ _ _ (by assumption)) ?_; rintro e w1 ⟨rfl, rfl⟩) | (go_at_call 33; refine Calls.mono (L3.out _) ?_; rintro e w1 ⟨rfl, rfl⟩) | (go_at_call 21; refine Calls.mono (S1.out _ _ _ (by assumption) (by assumption)) ?_; rintro e w1 ⟨rfl, hb1⟩) | (go_at_call 34; refine Calls.mono (M1.out _ (by assumption)) ?_; rintro e w1 ⟨⟨r, rfl, hr⟩, hb1⟩) | (go_at_call 35; refine Calls.mono (A1.out _ _ _ _ (by assumption) (by assumption)) ?_; rintro e w1 ⟨⟨r, rfl, hr⟩, hb1⟩) | (go_at_call 36; refine Calls.mono (P1.out _ _ _ _ (by assumption) (by assumption)) ?_; rintro e w1 ⟨⟨r, rfl, hr⟩, hb1⟩) | (go_at_call 37; refine Calls.mono (N1.out _ _ _ (by assumption)) ?_; rintro e w1 ⟨rfl, rfl⟩) | (go_at_call 18; refine Calls.mono (WK.out _ (by assumption)) ?_; rintro e w1 ⟨rfl, hb1⟩))
  go_ret
  exact ⟨rfl, by assumption⟩

theorem canon_not {a : Nat} (ha : a < 18446744073709551616) (h : nanB a = false) : ¬ wide (canon a) = (⟨#[55, 102, 102, 56, 48, 48, 48, 48, 48, 48, 48, 48, 48, 48, 48, 49]⟩ : ByteArray) := by
  rw [← wide_nan]
  intro e
  have e2 := wide_inj (canon_lt a ha) (by decide) e
  unfold canon at e2
  rw [h, if_neg (by decide)] at e2
  rw [e2] at h
  revert h; decide +kernel
theorem canon_nan {a : Nat} (h : nanB a = true) : wide (canon a) = (⟨#[55, 102, 102, 56, 48, 48, 48, 48, 48, 48, 48, 48, 48, 48, 48, 49]⟩ : ByteArray) := by
  rw [← wide_nan]; unfold canon; rw [if_pos h]

theorem lawOrder (a b : Nat) (w : World) (ha : a < 18446744073709551616) (hb : b < 18446744073709551616) (h : Glob w) :
    Calls Tryz.prog 8 #[.int .u64 a, .int .u64 b] w fun e w' => e = .returned (.bool true) ∧ Below w.heap.size w w' := by
  have hz : wide (showC (some 0)) = (⟨#[48, 48, 48, 48, 48, 48, 48, 48, 48, 48, 48, 48, 48, 48, 48, 48]⟩ : ByteArray) := by rw [showC_zero]; exact wide_zero
  have hn : wide (showC none) = (⟨#[55, 102, 102, 56, 48, 48, 48, 48, 48, 48, 48, 48, 48, 48, 48, 49]⟩ : ByteArray) := wide_nan
  have hs1 : ShowsAs a (wide (canon a)) := ⟨ha, rfl⟩
  have hs2 : ShowsAs b (wide (canon b)) := ⟨hb, rfl⟩
  cases na : nanB a with
  | true =>
    have h1 : fltB a b = false := by unfold fltB; rw [show FloatKind.f64.format = Ieee.double from rfl, order_nan_l na]; try rfl
    have h2 : fltB b a = false := by unfold fltB; rw [show FloatKind.f64.format = Ieee.double from rfl, order_nan_r na]; try rfl
    have h3 : feqB a b = false := by unfold feqB; rw [order_nan_l na]; try rfl
    rw [canon_nan na] at hs1
    rcases sub_self_bits a with e | e
    · have H := ord_of a b w _ _ ha hb h h3 ((congrArg (fun o => wide (showC o)) e).trans hn)
      exact lawOrder_nan a b _ w _ _ _ _ _ _ _ _ H hs1 hs2 h1 h2 rfl (by rw [add_comm_bits]) rfl (by rw [mul_comm_bits])
    · have H := ord_of a b w _ _ ha hb h h3 ((congrArg (fun o => wide (showC o)) e).trans hz)
      exact lawOrder_nan2 a b _ w _ _ _ _ _ _ _ _ H hs1 hs2 h1 h2 rfl (by rw [add_comm_bits]) rfl (by rw [mul_comm_bits])
  | false =>
    cases nb : nanB b with
    | true =>
      have h1 : fltB a b = false := by unfold fltB; rw [show FloatKind.f64.format = Ieee.double from rfl, order_nan_r nb]; try rfl
      have h2 : fltB b a = false := by unfold fltB; rw [show FloatKind.f64.format = Ieee.double from rfl, order_nan_l nb]; try rfl
      have h3 : feqB a b = false := by unfold feqB; rw [order_nan_r nb]; try rfl
      rw [canon_nan nb] at hs2
      rcases sub_self_bits a with e | e
      · have H := ord_of a b w _ _ ha hb h h3 ((congrArg (fun o => wide (showC o)) e).trans hn)
        exact lawOrder_bn a b _ w _ _ _ _ _ _ _ _ (canon_not ha na) H hs1 hs2 h1 h2 rfl (by rw [add_comm_bits]) rfl (by rw [mul_comm_bits])
      · have H := ord_of a b w _ _ ha hb h h3 ((congrArg (fun o => wide (showC o)) e).trans hz)
        exact lawOrder_bz a b _ w _ _ _ _ _ _ _ _ (canon_not ha na) H hs1 hs2 h1 h2 rfl (by rw [add_comm_bits]) rfl (by rw [mul_comm_bits])
    | false =>
      obtain ⟨c, hc, hc2⟩ := order_some na nb
      have h1 : fltB a b = (some c == some .lt) := by unfold fltB; rw [show FloatKind.f64.format = Ieee.double from rfl, hc]
      have h2 : fltB b a = (some c.swap == some .lt) := by unfold fltB; rw [show FloatKind.f64.format = Ieee.double from rfl, hc2]; try rfl
      have h3 : feqB a b = (some c == some .eq) := by unfold feqB; rw [hc]; try rfl
      rcases sub_self_bits a with e | e
      · have H := ord_of a b w _ _ ha hb h h3 ((congrArg (fun o => wide (showC o)) e).trans hn)
        cases c with
        | lt => exact lawOrder_ltn a b _ w _ _ _ _ _ _ _ _ _ (canon_not ha na) (canon_not hb nb) H hs1 hs2 h1 h2 rfl (by rw [add_comm_bits]) rfl (by rw [mul_comm_bits])
        | eq => exact lawOrder_eqn a b _ w _ _ _ _ _ _ _ _ _ (canon_not ha na) (canon_not hb nb) H hs1 hs2 h1 h2 rfl (by rw [add_comm_bits]) rfl (by rw [mul_comm_bits])
        | gt => exact lawOrder_gtn a b _ w _ _ _ _ _ _ _ _ _ (canon_not ha na) (canon_not hb nb) H hs1 hs2 h1 h2 rfl (by rw [add_comm_bits]) rfl (by rw [mul_comm_bits])
      · have H := ord_of a b w _ _ ha hb h h3 ((congrArg (fun o => wide (showC o)) e).trans hz)
        cases c with
        | lt => exact lawOrder_ltz a b _ w _ _ _ _ _ _ _ _ _ (canon_not ha na) (canon_not hb nb) H hs1 hs2 h1 h2 rfl (by rw [add_comm_bits]) rfl (by rw [mul_comm_bits])
        | eq => exact lawOrder_eqz a b _ w _ _ _ _ _ _ _ _ _ (canon_not ha na) (canon_not hb nb) H hs1 hs2 h1 h2 rfl (by rw [add_comm_bits]) rfl (by rw [mul_comm_bits])
        | gt => exact lawOrder_gtz a b _ w _ _ _ _ _ _ _ _ _ (canon_not ha na) (canon_not hb nb) H hs1 hs2 h1 h2 rfl (by rw [add_comm_bits]) rfl (by rw [mul_comm_bits])
end Go.Proofs.YtoonneminimbfaaGreatDoor

