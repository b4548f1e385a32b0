/- The document's Float of a text that is no literal. -/
import Derived.Test.YtclbmmiedihepaaGreatDoorQZa
namespace Go.Proofs.YtclbmmiedihepaaGreatDoor
open Go.RowKit
set_option linter.unusedVariables false
set_option linter.unusedSimpArgs false
set_option maxRecDepth 100000 in
set_option maxHeartbeats 1600000 in
theorem ref16_long (s : ByteArray) (hs : 60 < s.size) (hs2 : s.size ≤ 1000000) (w : World) : Calls Tryz.prog 62 #[.string s] w fun e w' => e = .returned (.tuple #[.int .u64 0, .int .i64 3]) ∧ Below w.heap.size w w' := by
 have p1 : (60 : Int) < (s.size : Int) := by omega
 go_enter Tryz.func62, Tryz.ntmps62
 go_wp2_with fail
 go_ret2
 exact ⟨rfl, Below.refl _ _⟩
set_option maxRecDepth 100000 in
set_option maxHeartbeats 1600000 in
theorem ref16_h0 (s : ByteArray) (hs : s.size ≤ 60) (h : digN s.data.toList = 0) (w : World) : Calls Tryz.prog 62 #[.string s] w fun e w' => e = .returned (.tuple #[.int .u64 0, .int .i64 4]) ∧ Below w.heap.size w w' := by
 have HRUN0 := Lib.hid (run_any s 0 w (by omega) (by omega))
 rw [List.drop_zero, h] at HRUN0
 have p1 : ¬ (60 : Int) < (s.size : Int) := by omega
 clear h
 go_enter Tryz.func62, Tryz.ntmps62
 go_wp2_with fail
 refine HRUN0.out.mono ?_
 rintro e wx ⟨rfl, rfl⟩
 go_wp2_with fail
 go_ret2
 exact ⟨rfl, Below.refl _ _⟩
set_option maxRecDepth 100000 in
set_option maxHeartbeats 1600000 in
theorem ref16_h1 (s : ByteArray) (a : Nat) (c0 : UInt8) (w : World) (hs : s.size ≤ 60) (hr0 : digN s.data.toList = a) (ha0 : a ≠ 0) (hsz0 : 0 < s.size) (hc0 : s.data.toList[0]? = some c0) (hm1 : 1 < a) (hm2 : c0 = 48) :
  Calls Tryz.prog 62 #[.string s] w fun e w' => e = .returned (.tuple #[.int .u64 0, .int .i64 4]) ∧ Below w.heap.size w w' := by
 have HRUN0 := Lib.hid (run_any s 0 w (by omega) (by omega))
 rw [List.drop_zero, hr0] at HRUN0
 have hs0 : 0 < s.size := by omega
 have hg0 : s[0]'hs0 = c0 := by
  have h := List.getElem?_eq_getElem (l := s.data.toList) (i := 0) (by show 0 < s.size; omega)
  rw [hc0] at h
  exact (Option.some.inj h).symm
 have p1 : ¬ (60 : Int) < (s.size : Int) := by omega
 have p2 : ¬ (a : Int) = 0 := by omega
 have p3 : ((a : Int) == 0) = false := by simpa using p2
 have p9 : (0 : Int) < (s.size : Int) := by omega
 have p17 : (0 : Int) ≤ (a : Int) := by omega
 have m1 : (1 : Int) < (a : Int) := by omega
 have m2 : (c0.toNat : Int) = 48 := by rw [hm2]; rfl
 have m3 : ((c0.toNat : Int) == 48) = true := by simpa using m2
 clear hm2 hr0 hc0
 go_enter Tryz.func62, Tryz.ntmps62
 go_wp2_with fail
 refine HRUN0.out.mono ?_
 rintro e wx ⟨rfl, rfl⟩
 go_wp2_with fail
 go_ret2
 exact ⟨rfl, Below.refl _ _⟩
set_option maxRecDepth 100000 in
set_option maxHeartbeats 1600000 in
theorem ref16_h2_1 (s : ByteArray) (a : Nat) (c0 : UInt8) (w : World) (hs : s.size ≤ 60) (hr0 : digN s.data.toList = a) (ha0 : a ≠ 0) (hsz0 : 0 < s.size) (hc0 : s.data.toList[0]? = some c0) (hm1 : ¬ 1 < a) (hm : a = s.size) :
  Calls Tryz.prog 62 #[.string s] w fun e w' => e = .returned (.tuple #[.int .u64 0, .int .i64 4]) ∧ Below w.heap.size w w' := by
 have HRUN0 := Lib.hid (run_any s 0 w (by omega) (by omega))
 rw [List.drop_zero, hr0] at HRUN0
 have hs0 : 0 < s.size := by omega
 have hg0 : s[0]'hs0 = c0 := by
  have h := List.getElem?_eq_getElem (l := s.data.toList) (i := 0) (by show 0 < s.size; omega)
  rw [hc0] at h
  exact (Option.some.inj h).symm
 have p1 : ¬ (60 : Int) < (s.size : Int) := by omega
 have p2 : ¬ (a : Int) = 0 := by omega
 have p3 : ((a : Int) == 0) = false := by simpa using p2
 have p9 : (0 : Int) < (s.size : Int) := by omega
 have p17 : (0 : Int) ≤ (a : Int) := by omega
 have m1 : ¬ (1 : Int) < (a : Int) := by omega
 have p5 : ((s.size : Int) == 0) = false := by simpa using (show ¬ (s.size : Int) = 0 by omega)
 have p6 : ¬ (s.size : Int) = 0 := by omega
 subst hm
 clear hr0 hc0
 go_enter Tryz.func62, Tryz.ntmps62
 go_wp2_with fail
 refine HRUN0.out.mono ?_
 rintro e wx ⟨rfl, rfl⟩
 go_wp2_with fail
 go_ret2
 exact ⟨rfl, Below.refl _ _⟩
set_option maxRecDepth 100000 in
set_option maxHeartbeats 1600000 in
theorem ref16_h3_1 (s : ByteArray) (a : Nat) (c0 : UInt8) (w : World) (hs : s.size ≤ 60) (hr0 : digN s.data.toList = a) (ha0 : a ≠ 0) (hsz0 : 0 < s.size) (hc0 : s.data.toList[0]? = some c0) (hm1 : ¬ 1 < a) (ha1 : a < s.size) (c1 : UInt8) (hc1 : s.data.toList[a]? = some c1) (h46 : c1 ≠ 46) :
  Calls Tryz.prog 62 #[.string s] w fun e w' => e = .returned (.tuple #[.int .u64 0, .int .i64 4]) ∧ Below w.heap.size w w' := by
 have HRUN0 := Lib.hid (run_any s 0 w (by omega) (by omega))
 rw [List.drop_zero, hr0] at HRUN0
 have hs0 : 0 < s.size := by omega
 have hg0 : s[0]'hs0 = c0 := by
  have h := List.getElem?_eq_getElem (l := s.data.toList) (i := 0) (by show 0 < s.size; omega)
  rw [hc0] at h
  exact (Option.some.inj h).symm
 have p1 : ¬ (60 : Int) < (s.size : Int) := by omega
 have p2 : ¬ (a : Int) = 0 := by omega
 have p3 : ((a : Int) == 0) = false := by simpa using p2
 have p9 : (0 : Int) < (s.size : Int) := by omega
 have p17 : (0 : Int) ≤ (a : Int) := by omega
 have m1 : ¬ (1 : Int) < (a : Int) := by omega
 have hga : s[a]'ha1 = c1 := by
  have h := List.getElem?_eq_getElem (l := s.data.toList) (i := a) (by show a < s.size; omega)
  rw [hc1] at h
  exact (Option.some.inj h).symm
 have p4 : ¬ (a : Int) = (s.size : Int) := by omega
 have p5 : ((a : Int) == (s.size : Int)) = false := by simpa using p4
 have p8 : (a : Int) < (s.size : Int) := by omega
 have p6 : ¬ (c1.toNat : Int) = 46 := u8_ne h46
 have p7 : ((c1.toNat : Int) != 46) = true := by simpa using p6
 clear hc1 h46
 clear hr0 hc0
 go_enter Tryz.func62, Tryz.ntmps62
 go_wp2_with fail
 refine HRUN0.out.mono ?_
 rintro e wx ⟨rfl, rfl⟩
 go_wp2_with fail
 go_ret2
 exact ⟨rfl, Below.refl _ _⟩
set_option maxRecDepth 100000 in
set_option maxHeartbeats 1600000 in
theorem ref16_h4_1 (s : ByteArray) (a : Nat) (c0 : UInt8) (w : World) (hs : s.size ≤ 60) (hr0 : digN s.data.toList = a) (ha0 : a ≠ 0) (hsz0 : 0 < s.size) (hc0 : s.data.toList[0]? = some c0) (hm1 : ¬ 1 < a) (ha1 : a < s.size) (c1 : UInt8) (hc1 : s.data.toList[a]? = some c1) (h46 : c1 = 46) (k1 : Nat) (hk1 : k1 = a + 1) (hr1 : digN (s.data.toList.drop k1) = 0) :
  Calls Tryz.prog 62 #[.string s] w fun e w' => e = .returned (.tuple #[.int .u64 0, .int .i64 4]) ∧ Below w.heap.size w w' := by
 have HRUN0 := Lib.hid (run_any s 0 w (by omega) (by omega))
 rw [List.drop_zero, hr0] at HRUN0
 have hs0 : 0 < s.size := by omega
 have hg0 : s[0]'hs0 = c0 := by
  have h := List.getElem?_eq_getElem (l := s.data.toList) (i := 0) (by show 0 < s.size; omega)
  rw [hc0] at h
  exact (Option.some.inj h).symm
 have p1 : ¬ (60 : Int) < (s.size : Int) := by omega
 have p2 : ¬ (a : Int) = 0 := by omega
 have p3 : ((a : Int) == 0) = false := by simpa using p2
 have p9 : (0 : Int) < (s.size : Int) := by omega
 have p17 : (0 : Int) ≤ (a : Int) := by omega
 have m1 : ¬ (1 : Int) < (a : Int) := by omega
 have hga : s[a]'ha1 = c1 := by
  have h := List.getElem?_eq_getElem (l := s.data.toList) (i := a) (by show a < s.size; omega)
  rw [hc1] at h
  exact (Option.some.inj h).symm
 have p4 : ¬ (a : Int) = (s.size : Int) := by omega
 have p5 : ((a : Int) == (s.size : Int)) = false := by simpa using p4
 have p8 : (a : Int) < (s.size : Int) := by omega
 have p6 : (c1.toNat : Int) = 46 := by rw [h46]; rfl
 have p7 : ((c1.toNat : Int) != 46) = false := by rw [p6]; rfl
 have HRUN1 := Lib.hid (run_any s k1 w (by omega) (by omega))
 rw [hr1] at HRUN1
 have p10 : (a : Int) + 1 = (k1 : Int) := by omega
 clear hc1 h46 hk1 hr1
 clear hr0 hc0
 go_enter Tryz.func62, Tryz.ntmps62
 go_wp2_with fail
 refine HRUN0.out.mono ?_
 rintro e wx ⟨rfl, rfl⟩
 go_wp2_with fail
 refine HRUN1.out.mono ?_
 rintro e wx ⟨rfl, rfl⟩
 go_wp2_with fail
 go_ret2
 exact ⟨rfl, Below.refl _ _⟩
set_option maxRecDepth 100000 in
set_option maxHeartbeats 1600000 in
theorem ref16_h5_1_1 (s : ByteArray) (a : Nat) (c0 : UInt8) (w : World) (hs : s.size ≤ 60) (hr0 : digN s.data.toList = a) (ha0 : a ≠ 0) (hsz0 : 0 < s.size) (hc0 : s.data.toList[0]? = some c0) (hm1 : ¬ 1 < a) (ha1 : a < s.size) (c1 : UInt8) (hc1 : s.data.toList[a]? = some c1) (h46 : c1 = 46) (k1 : Nat) (hk1 : k1 = a + 1) (b : Nat) (hr1 : digN (s.data.toList.drop k1) = b) (hb0 : b ≠ 0) (k2 : Nat) (hk2 : k2 = k1 + b) (hk2s : k2 ≤ s.size) (R T : ByteArray) (hR : s.extract k2 s.size = R) (hR0 : 0 < R.size) (hR1 : R[0] ≠ 101) (is : Bool) (nx : Int) (hT : R.extract 1 R.size = T) (hE : ∀ W, Calls Tryz.prog 85 #[.string T] W fun e w' => e = .returned (.tuple #[.int .i64 nx, .bool is]) ∧ W = w') :
  Calls Tryz.prog 62 #[.string s] w fun e w' => e = .returned (.tuple #[.int .u64 0, .int .i64 4]) ∧ Below w.heap.size w w' := by
 have HRUN0 := Lib.hid (run_any s 0 w (by omega) (by omega))
 rw [List.drop_zero, hr0] at HRUN0
 have hs0 : 0 < s.size := by omega
 have hg0 : s[0]'hs0 = c0 := by
  have h := List.getElem?_eq_getElem (l := s.data.toList) (i := 0) (by show 0 < s.size; omega)
  rw [hc0] at h
  exact (Option.some.inj h).symm
 have p1 : ¬ (60 : Int) < (s.size : Int) := by omega
 have p2 : ¬ (a : Int) = 0 := by omega
 have p3 : ((a : Int) == 0) = false := by simpa using p2
 have p9 : (0 : Int) < (s.size : Int) := by omega
 have p17 : (0 : Int) ≤ (a : Int) := by omega
 have m1 : ¬ (1 : Int) < (a : Int) := by omega
 have hga : s[a]'ha1 = c1 := by
  have h := List.getElem?_eq_getElem (l := s.data.toList) (i := a) (by show a < s.size; omega)
  rw [hc1] at h
  exact (Option.some.inj h).symm
 have p4 : ¬ (a : Int) = (s.size : Int) := by omega
 have p5 : ((a : Int) == (s.size : Int)) = false := by simpa using p4
 have p8 : (a : Int) < (s.size : Int) := by omega
 have p6 : (c1.toNat : Int) = 46 := by rw [h46]; rfl
 have p7 : ((c1.toNat : Int) != 46) = false := by rw [p6]; rfl
 have HRUN1 := Lib.hid (run_any s k1 w (by omega) (by omega))
 rw [hr1] at HRUN1
 have p10 : (a : Int) + 1 = (k1 : Int) := by omega
 have p11 : (k1 : Int) + (b : Int) = (k2 : Int) := by omega
 have p12 : (k2 : Int) ≤ (s.size : Int) := by omega
 have p13 : ¬ (b : Int) = 0 := by omega
 have p14 : ((b : Int) == 0) = false := by simpa using p13
 have p15 : (k1 : Int) ≤ (k2 : Int) := by omega
 have p16 : (0 : Int) ≤ (k1 : Int) := by omega
 have HE := Lib.hid hE
 have q1 : ¬ (R.size : Int) = 0 := by omega
 have q2 : ((R.size : Int) == 0) = false := by simpa using q1
 have q3 : ¬ R = ByteArray.empty := fun e => by rw [e] at hR0; exact absurd hR0 (Nat.not_lt_zero _)
 have q5 : ¬ R.toList = [] := by rw [ByteArray.toList_eq]; intro hc; exact q3 (ba_nil (by show R.data.toList.length = 0; rw [hc]; rfl))
 have q6 : (!R.toList.isEmpty) = true := by simpa using q5
 have q7 : (0 : Int) < (R.size : Int) := by omega
 have q8 : (1 : Int) ≤ (R.size : Int) := by omega
 obtain ⟨rc, hrc⟩ : ∃ rc, R[0] = rc := ⟨_, rfl⟩
 rw [hrc] at hR1
 have q9 : ¬ (rc.toNat : Int) = 101 := u8_ne hR1
 have q10 : ((rc.toNat : Int) != 101) = true := by simpa using q9
 clear hE hR1 hc1 h46 hk1 hr1 hb0 hk2 hk2s
 clear hr0 hc0
 go_enter Tryz.func62, Tryz.ntmps62
 go_wp2_with fail
 refine HRUN0.out.mono ?_
 rintro e wx ⟨rfl, rfl⟩
 go_wp2_with fail
 refine HRUN1.out.mono ?_
 rintro e wx ⟨rfl, rfl⟩
 go_wp2_with fail
 refine (HE.out _).mono ?_
 rintro e wx ⟨rfl, rfl⟩
 go_wp2_with fail
 go_ret2
 exact ⟨rfl, Below.refl _ _⟩
set_option maxRecDepth 100000 in
set_option maxHeartbeats 1600000 in
theorem ref16_h5_1_2 (s : ByteArray) (a : Nat) (c0 : UInt8) (w : World) (hs : s.size ≤ 60) (hr0 : digN s.data.toList = a) (ha0 : a ≠ 0) (hsz0 : 0 < s.size) (hc0 : s.data.toList[0]? = some c0) (hm1 : ¬ 1 < a) (ha1 : a < s.size) (c1 : UInt8) (hc1 : s.data.toList[a]? = some c1) (h46 : c1 = 46) (k1 : Nat) (hk1 : k1 = a + 1) (b : Nat) (hr1 : digN (s.data.toList.drop k1) = b) (hb0 : b ≠ 0) (k2 : Nat) (hk2 : k2 = k1 + b) (hk2s : k2 ≤ s.size) (R T : ByteArray) (hR : s.extract k2 s.size = R) (hR0 : 0 < R.size) (hR1 : R[0] = 101) (nx : Int) (hT : R.extract 1 R.size = T) (hE : ∀ W, Calls Tryz.prog 85 #[.string T] W fun e w' => e = .returned (.tuple #[.int .i64 nx, .bool false]) ∧ W = w') :
  Calls Tryz.prog 62 #[.string s] w fun e w' => e = .returned (.tuple #[.int .u64 0, .int .i64 4]) ∧ Below w.heap.size w w' := by
 have HRUN0 := Lib.hid (run_any s 0 w (by omega) (by omega))
 rw [List.drop_zero, hr0] at HRUN0
 have hs0 : 0 < s.size := by omega
 have hg0 : s[0]'hs0 = c0 := by
  have h := List.getElem?_eq_getElem (l := s.data.toList) (i := 0) (by show 0 < s.size; omega)
  rw [hc0] at h
  exact (Option.some.inj h).symm
 have p1 : ¬ (60 : Int) < (s.size : Int) := by omega
 have p2 : ¬ (a : Int) = 0 := by omega
 have p3 : ((a : Int) == 0) = false := by simpa using p2
 have p9 : (0 : Int) < (s.size : Int) := by omega
 have p17 : (0 : Int) ≤ (a : Int) := by omega
 have m1 : ¬ (1 : Int) < (a : Int) := by omega
 have hga : s[a]'ha1 = c1 := by
  have h := List.getElem?_eq_getElem (l := s.data.toList) (i := a) (by show a < s.size; omega)
  rw [hc1] at h
  exact (Option.some.inj h).symm
 have p4 : ¬ (a : Int) = (s.size : Int) := by omega
 have p5 : ((a : Int) == (s.size : Int)) = false := by simpa using p4
 have p8 : (a : Int) < (s.size : Int) := by omega
 have p6 : (c1.toNat : Int) = 46 := by rw [h46]; rfl
 have p7 : ((c1.toNat : Int) != 46) = false := by rw [p6]; rfl
 have HRUN1 := Lib.hid (run_any s k1 w (by omega) (by omega))
 rw [hr1] at HRUN1
 have p10 : (a : Int) + 1 = (k1 : Int) := by omega
 have p11 : (k1 : Int) + (b : Int) = (k2 : Int) := by omega
 have p12 : (k2 : Int) ≤ (s.size : Int) := by omega
 have p13 : ¬ (b : Int) = 0 := by omega
 have p14 : ((b : Int) == 0) = false := by simpa using p13
 have p15 : (k1 : Int) ≤ (k2 : Int) := by omega
 have p16 : (0 : Int) ≤ (k1 : Int) := by omega
 have HE := Lib.hid hE
 have q1 : ¬ (R.size : Int) = 0 := by omega
 have q2 : ((R.size : Int) == 0) = false := by simpa using q1
 have q3 : ¬ R = ByteArray.empty := fun e => by rw [e] at hR0; exact absurd hR0 (Nat.not_lt_zero _)
 have q5 : ¬ R.toList = [] := by rw [ByteArray.toList_eq]; intro hc; exact q3 (ba_nil (by show R.data.toList.length = 0; rw [hc]; rfl))
 have q6 : (!R.toList.isEmpty) = true := by simpa using q5
 have q7 : (0 : Int) < (R.size : Int) := by omega
 have q8 : (1 : Int) ≤ (R.size : Int) := by omega
 obtain ⟨rc, hrc⟩ : ∃ rc, R[0] = rc := ⟨_, rfl⟩
 rw [hrc] at hR1
 have q9 : (rc.toNat : Int) = 101 := by rw [hR1]; rfl
 have q10 : ((rc.toNat : Int) != 101) = false := by rw [q9]; rfl
 clear hE hR1 hc1 h46 hk1 hr1 hb0 hk2 hk2s
 clear hr0 hc0
 go_enter Tryz.func62, Tryz.ntmps62
 go_wp2_with fail
 refine HRUN0.out.mono ?_
 rintro e wx ⟨rfl, rfl⟩
 go_wp2_with fail
 refine HRUN1.out.mono ?_
 rintro e wx ⟨rfl, rfl⟩
 go_wp2_with fail
 refine (HE.out _).mono ?_
 rintro e wx ⟨rfl, rfl⟩
 go_wp2_with fail
 go_ret2
 exact ⟨rfl, Below.refl _ _⟩
set_option maxRecDepth 100000 in
set_option maxHeartbeats 1600000 in
theorem ref16_h2_2 (s : ByteArray) (a : Nat) (c0 : UInt8) (w : World) (hs : s.size ≤ 60) (hr0 : digN s.data.toList = a) (ha0 : a ≠ 0) (hsz0 : 0 < s.size) (hc0 : s.data.toList[0]? = some c0) (hm1 : 1 < a) (hm2 : c0 ≠ 48) (hm : a = s.size) :
  Calls Tryz.prog 62 #[.string s] w fun e w' => e = .returned (.tuple #[.int .u64 0, .int .i64 4]) ∧ Below w.heap.size w w' := by
 have HRUN0 := Lib.hid (run_any s 0 w (by omega) (by omega))
 rw [List.drop_zero, hr0] at HRUN0
 have hs0 : 0 < s.size := by omega
 have hg0 : s[0]'hs0 = c0 := by
  have h := List.getElem?_eq_getElem (l := s.data.toList) (i := 0) (by show 0 < s.size; omega)
  rw [hc0] at h
  exact (Option.some.inj h).symm
 have p1 : ¬ (60 : Int) < (s.size : Int) := by omega
 have p2 : ¬ (a : Int) = 0 := by omega
 have p3 : ((a : Int) == 0) = false := by simpa using p2
 have p9 : (0 : Int) < (s.size : Int) := by omega
 have p17 : (0 : Int) ≤ (a : Int) := by omega
 have m1 : (1 : Int) < (a : Int) := by omega
 have m2 : ¬ (c0.toNat : Int) = 48 := u8_ne hm2
 have m3 : ((c0.toNat : Int) == 48) = false := by simpa using m2
 clear hm2
 have p5 : ((s.size : Int) == 0) = false := by simpa using (show ¬ (s.size : Int) = 0 by omega)
 have p6 : ¬ (s.size : Int) = 0 := by omega
 subst hm
 clear hr0 hc0
 go_enter Tryz.func62, Tryz.ntmps62
 go_wp2_with fail
 refine HRUN0.out.mono ?_
 rintro e wx ⟨rfl, rfl⟩
 go_wp2_with fail
 go_ret2
 exact ⟨rfl, Below.refl _ _⟩
set_option maxRecDepth 100000 in
set_option maxHeartbeats 1600000 in
theorem ref16_h3_2 (s : ByteArray) (a : Nat) (c0 : UInt8) (w : World) (hs : s.size ≤ 60) (hr0 : digN s.data.toList = a) (ha0 : a ≠ 0) (hsz0 : 0 < s.size) (hc0 : s.data.toList[0]? = some c0) (hm1 : 1 < a) (hm2 : c0 ≠ 48) (ha1 : a < s.size) (c1 : UInt8) (hc1 : s.data.toList[a]? = some c1) (h46 : c1 ≠ 46) :
  Calls Tryz.prog 62 #[.string s] w fun e w' => e = .returned (.tuple #[.int .u64 0, .int .i64 4]) ∧ Below w.heap.size w w' := by
 have HRUN0 := Lib.hid (run_any s 0 w (by omega) (by omega))
 rw [List.drop_zero, hr0] at HRUN0
 have hs0 : 0 < s.size := by omega
 have hg0 : s[0]'hs0 = c0 := by
  have h := List.getElem?_eq_getElem (l := s.data.toList) (i := 0) (by show 0 < s.size; omega)
  rw [hc0] at h
  exact (Option.some.inj h).symm
 have p1 : ¬ (60 : Int) < (s.size : Int) := by omega
 have p2 : ¬ (a : Int) = 0 := by omega
 have p3 : ((a : Int) == 0) = false := by simpa using p2
 have p9 : (0 : Int) < (s.size : Int) := by omega
 have p17 : (0 : Int) ≤ (a : Int) := by omega
 have m1 : (1 : Int) < (a : Int) := by omega
 have m2 : ¬ (c0.toNat : Int) = 48 := u8_ne hm2
 have m3 : ((c0.toNat : Int) == 48) = false := by simpa using m2
 clear hm2
 have hga : s[a]'ha1 = c1 := by
  have h := List.getElem?_eq_getElem (l := s.data.toList) (i := a) (by show a < s.size; omega)
  rw [hc1] at h
  exact (Option.some.inj h).symm
 have p4 : ¬ (a : Int) = (s.size : Int) := by omega
 have p5 : ((a : Int) == (s.size : Int)) = false := by simpa using p4
 have p8 : (a : Int) < (s.size : Int) := by omega
 have p6 : ¬ (c1.toNat : Int) = 46 := u8_ne h46
 have p7 : ((c1.toNat : Int) != 46) = true := by simpa using p6
 clear hc1 h46
 clear hr0 hc0
 go_enter Tryz.func62, Tryz.ntmps62
 go_wp2_with fail
 refine HRUN0.out.mono ?_
 rintro e wx ⟨rfl, rfl⟩
 go_wp2_with fail
 go_ret2
 exact ⟨rfl, Below.refl _ _⟩
set_option maxRecDepth 100000 in
set_option maxHeartbeats 1600000 in
theorem ref16_h4_2 (s : ByteArray) (a : Nat) (c0 : UInt8) (w : World) (hs : s.size ≤ 60) (hr0 : digN s.data.toList = a) (ha0 : a ≠ 0) (hsz0 : 0 < s.size) (hc0 : s.data.toList[0]? = some c0) (hm1 : 1 < a) (hm2 : c0 ≠ 48) (ha1 : a < s.size) (c1 : UInt8) (hc1 : s.data.toList[a]? = some c1) (h46 : c1 = 46) (k1 : Nat) (hk1 : k1 = a + 1) (hr1 : digN (s.data.toList.drop k1) = 0) :
  Calls Tryz.prog 62 #[.string s] w fun e w' => e = .returned (.tuple #[.int .u64 0, .int .i64 4]) ∧ Below w.heap.size w w' := by
 have HRUN0 := Lib.hid (run_any s 0 w (by omega) (by omega))
 rw [List.drop_zero, hr0] at HRUN0
 have hs0 : 0 < s.size := by omega
 have hg0 : s[0]'hs0 = c0 := by
  have h := List.getElem?_eq_getElem (l := s.data.toList) (i := 0) (by show 0 < s.size; omega)
  rw [hc0] at h
  exact (Option.some.inj h).symm
 have p1 : ¬ (60 : Int) < (s.size : Int) := by omega
 have p2 : ¬ (a : Int) = 0 := by omega
 have p3 : ((a : Int) == 0) = false := by simpa using p2
 have p9 : (0 : Int) < (s.size : Int) := by omega
 have p17 : (0 : Int) ≤ (a : Int) := by omega
 have m1 : (1 : Int) < (a : Int) := by omega
 have m2 : ¬ (c0.toNat : Int) = 48 := u8_ne hm2
 have m3 : ((c0.toNat : Int) == 48) = false := by simpa using m2
 clear hm2
 have hga : s[a]'ha1 = c1 := by
  have h := List.getElem?_eq_getElem (l := s.data.toList) (i := a) (by show a < s.size; omega)
  rw [hc1] at h
  exact (Option.some.inj h).symm
 have p4 : ¬ (a : Int) = (s.size : Int) := by omega
 have p5 : ((a : Int) == (s.size : Int)) = false := by simpa using p4
 have p8 : (a : Int) < (s.size : Int) := by omega
 have p6 : (c1.toNat : Int) = 46 := by rw [h46]; rfl
 have p7 : ((c1.toNat : Int) != 46) = false := by rw [p6]; rfl
 have HRUN1 := Lib.hid (run_any s k1 w (by omega) (by omega))
 rw [hr1] at HRUN1
 have p10 : (a : Int) + 1 = (k1 : Int) := by omega
 clear hc1 h46 hk1 hr1
 clear hr0 hc0
 go_enter Tryz.func62, Tryz.ntmps62
 go_wp2_with fail
 refine HRUN0.out.mono ?_
 rintro e wx ⟨rfl, rfl⟩
 go_wp2_with fail
 refine HRUN1.out.mono ?_
 rintro e wx ⟨rfl, rfl⟩
 go_wp2_with fail
 go_ret2
 exact ⟨rfl, Below.refl _ _⟩
set_option maxRecDepth 100000 in
set_option maxHeartbeats 1600000 in
theorem ref16_h5_2_1 (s : ByteArray) (a : Nat) (c0 : UInt8) (w : World) (hs : s.size ≤ 60) (hr0 : digN s.data.toList = a) (ha0 : a ≠ 0) (hsz0 : 0 < s.size) (hc0 : s.data.toList[0]? = some c0) (hm1 : 1 < a) (hm2 : c0 ≠ 48) (ha1 : a < s.size) (c1 : UInt8) (hc1 : s.data.toList[a]? = some c1) (h46 : c1 = 46) (k1 : Nat) (hk1 : k1 = a + 1) (b : Nat) (hr1 : digN (s.data.toList.drop k1) = b) (hb0 : b ≠ 0) (k2 : Nat) (hk2 : k2 = k1 + b) (hk2s : k2 ≤ s.size) (R T : ByteArray) (hR : s.extract k2 s.size = R) (hR0 : 0 < R.size) (hR1 : R[0] ≠ 101) (is : Bool) (nx : Int) (hT : R.extract 1 R.size = T) (hE : ∀ W, Calls Tryz.prog 85 #[.string T] W fun e w' => e = .returned (.tuple #[.int .i64 nx, .bool is]) ∧ W = w') :
  Calls Tryz.prog 62 #[.string s] w fun e w' => e = .returned (.tuple #[.int .u64 0, .int .i64 4]) ∧ Below w.heap.size w w' := by
 have HRUN0 := Lib.hid (run_any s 0 w (by omega) (by omega))
 rw [List.drop_zero, hr0] at HRUN0
 have hs0 : 0 < s.size := by omega
 have hg0 : s[0]'hs0 = c0 := by
  have h := List.getElem?_eq_getElem (l := s.data.toList) (i := 0) (by show 0 < s.size; omega)
  rw [hc0] at h
  exact (Option.some.inj h).symm
 have p1 : ¬ (60 : Int) < (s.size : Int) := by omega
 have p2 : ¬ (a : Int) = 0 := by omega
 have p3 : ((a : Int) == 0) = false := by simpa using p2
 have p9 : (0 : Int) < (s.size : Int) := by omega
 have p17 : (0 : Int) ≤ (a : Int) := by omega
 have m1 : (1 : Int) < (a : Int) := by omega
 have m2 : ¬ (c0.toNat : Int) = 48 := u8_ne hm2
 have m3 : ((c0.toNat : Int) == 48) = false := by simpa using m2
 clear hm2
 have hga : s[a]'ha1 = c1 := by
  have h := List.getElem?_eq_getElem (l := s.data.toList) (i := a) (by show a < s.size; omega)
  rw [hc1] at h
  exact (Option.some.inj h).symm
 have p4 : ¬ (a : Int) = (s.size : Int) := by omega
 have p5 : ((a : Int) == (s.size : Int)) = false := by simpa using p4
 have p8 : (a : Int) < (s.size : Int) := by omega
 have p6 : (c1.toNat : Int) = 46 := by rw [h46]; rfl
 have p7 : ((c1.toNat : Int) != 46) = false := by rw [p6]; rfl
 have HRUN1 := Lib.hid (run_any s k1 w (by omega) (by omega))
 rw [hr1] at HRUN1
 have p10 : (a : Int) + 1 = (k1 : Int) := by omega
 have p11 : (k1 : Int) + (b : Int) = (k2 : Int) := by omega
 have p12 : (k2 : Int) ≤ (s.size : Int) := by omega
 have p13 : ¬ (b : Int) = 0 := by omega
 have p14 : ((b : Int) == 0) = false := by simpa using p13
 have p15 : (k1 : Int) ≤ (k2 : Int) := by omega
 have p16 : (0 : Int) ≤ (k1 : Int) := by omega
 have HE := Lib.hid hE
 have q1 : ¬ (R.size : Int) = 0 := by omega
 have q2 : ((R.size : Int) == 0) = false := by simpa using q1
 have q3 : ¬ R = ByteArray.empty := fun e => by rw [e] at hR0; exact absurd hR0 (Nat.not_lt_zero _)
 have q5 : ¬ R.toList = [] := by rw [ByteArray.toList_eq]; intro hc; exact q3 (ba_nil (by show R.data.toList.length = 0; rw [hc]; rfl))
 have q6 : (!R.toList.isEmpty) = true := by simpa using q5
 have q7 : (0 : Int) < (R.size : Int) := by omega
 have q8 : (1 : Int) ≤ (R.size : Int) := by omega
 obtain ⟨rc, hrc⟩ : ∃ rc, R[0] = rc := ⟨_, rfl⟩
 rw [hrc] at hR1
 have q9 : ¬ (rc.toNat : Int) = 101 := u8_ne hR1
 have q10 : ((rc.toNat : Int) != 101) = true := by simpa using q9
 clear hE hR1 hc1 h46 hk1 hr1 hb0 hk2 hk2s
 clear hr0 hc0
 go_enter Tryz.func62, Tryz.ntmps62
 go_wp2_with fail
 refine HRUN0.out.mono ?_
 rintro e wx ⟨rfl, rfl⟩
 go_wp2_with fail
 refine HRUN1.out.mono ?_
 rintro e wx ⟨rfl, rfl⟩
 go_wp2_with fail
 refine (HE.out _).mono ?_
 rintro e wx ⟨rfl, rfl⟩
 go_wp2_with fail
 go_ret2
 exact ⟨rfl, Below.refl _ _⟩
set_option maxRecDepth 100000 in
set_option maxHeartbeats 1600000 in
theorem ref16_h5_2_2 (s : ByteArray) (a : Nat) (c0 : UInt8) (w : World) (hs : s.size ≤ 60) (hr0 : digN s.data.toList = a) (ha0 : a ≠ 0) (hsz0 : 0 < s.size) (hc0 : s.data.toList[0]? = some c0) (hm1 : 1 < a) (hm2 : c0 ≠ 48) (ha1 : a < s.size) (c1 : UInt8) (hc1 : s.data.toList[a]? = some c1) (h46 : c1 = 46) (k1 : Nat) (hk1 : k1 = a + 1) (b : Nat) (hr1 : digN (s.data.toList.drop k1) = b) (hb0 : b ≠ 0) (k2 : Nat) (hk2 : k2 = k1 + b) (hk2s : k2 ≤ s.size) (R T : ByteArray) (hR : s.extract k2 s.size = R) (hR0 : 0 < R.size) (hR1 : R[0] = 101) (nx : Int) (hT : R.extract 1 R.size = T) (hE : ∀ W, Calls Tryz.prog 85 #[.string T] W fun e w' => e = .returned (.tuple #[.int .i64 nx, .bool false]) ∧ W = w') :
  Calls Tryz.prog 62 #[.string s] w fun e w' => e = .returned (.tuple #[.int .u64 0, .int .i64 4]) ∧ Below w.heap.size w w' := by
 have HRUN0 := Lib.hid (run_any s 0 w (by omega) (by omega))
 rw [List.drop_zero, hr0] at HRUN0
 have hs0 : 0 < s.size := by omega
 have hg0 : s[0]'hs0 = c0 := by
  have h := List.getElem?_eq_getElem (l := s.data.toList) (i := 0) (by show 0 < s.size; omega)
  rw [hc0] at h
  exact (Option.some.inj h).symm
 have p1 : ¬ (60 : Int) < (s.size : Int) := by omega
 have p2 : ¬ (a : Int) = 0 := by omega
 have p3 : ((a : Int) == 0) = false := by simpa using p2
 have p9 : (0 : Int) < (s.size : Int) := by omega
 have p17 : (0 : Int) ≤ (a : Int) := by omega
 have m1 : (1 : Int) < (a : Int) := by omega
 have m2 : ¬ (c0.toNat : Int) = 48 := u8_ne hm2
 have m3 : ((c0.toNat : Int) == 48) = false := by simpa using m2
 clear hm2
 have hga : s[a]'ha1 = c1 := by
  have h := List.getElem?_eq_getElem (l := s.data.toList) (i := a) (by show a < s.size; omega)
  rw [hc1] at h
  exact (Option.some.inj h).symm
 have p4 : ¬ (a : Int) = (s.size : Int) := by omega
 have p5 : ((a : Int) == (s.size : Int)) = false := by simpa using p4
 have p8 : (a : Int) < (s.size : Int) := by omega
 have p6 : (c1.toNat : Int) = 46 := by rw [h46]; rfl
 have p7 : ((c1.toNat : Int) != 46) = false := by rw [p6]; rfl
 have HRUN1 := Lib.hid (run_any s k1 w (by omega) (by omega))
 rw [hr1] at HRUN1
 have p10 : (a : Int) + 1 = (k1 : Int) := by omega
 have p11 : (k1 : Int) + (b : Int) = (k2 : Int) := by omega
 have p12 : (k2 : Int) ≤ (s.size : Int) := by omega
 have p13 : ¬ (b : Int) = 0 := by omega
 have p14 : ((b : Int) == 0) = false := by simpa using p13
 have p15 : (k1 : Int) ≤ (k2 : Int) := by omega
 have p16 : (0 : Int) ≤ (k1 : Int) := by omega
 have HE := Lib.hid hE
 have q1 : ¬ (R.size : Int) = 0 := by omega
 have q2 : ((R.size : Int) == 0) = false := by simpa using q1
 have q3 : ¬ R = ByteArray.empty := fun e => by rw [e] at hR0; exact absurd hR0 (Nat.not_lt_zero _)
 have q5 : ¬ R.toList = [] := by rw [ByteArray.toList_eq]; intro hc; exact q3 (ba_nil (by show R.data.toList.length = 0; rw [hc]; rfl))
 have q6 : (!R.toList.isEmpty) = true := by simpa using q5
 have q7 : (0 : Int) < (R.size : Int) := by omega
 have q8 : (1 : Int) ≤ (R.size : Int) := by omega
 obtain ⟨rc, hrc⟩ : ∃ rc, R[0] = rc := ⟨_, rfl⟩
 rw [hrc] at hR1
 have q9 : (rc.toNat : Int) = 101 := by rw [hR1]; rfl
 have q10 : ((rc.toNat : Int) != 101) = false := by rw [q9]; rfl
 clear hE hR1 hc1 h46 hk1 hr1 hb0 hk2 hk2s
 clear hr0 hc0
 go_enter Tryz.func62, Tryz.ntmps62
 go_wp2_with fail
 refine HRUN0.out.mono ?_
 rintro e wx ⟨rfl, rfl⟩
 go_wp2_with fail
 refine HRUN1.out.mono ?_
 rintro e wx ⟨rfl, rfl⟩
 go_wp2_with fail
 refine (HE.out _).mono ?_
 rintro e wx ⟨rfl, rfl⟩
 go_wp2_with fail
 go_ret2
 exact ⟨rfl, Below.refl _ _⟩
end Go.Proofs.YtclbmmiedihepaaGreatDoor
