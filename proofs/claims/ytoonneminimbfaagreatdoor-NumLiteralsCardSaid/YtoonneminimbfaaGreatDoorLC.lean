/- The law NumBack: a number's text read again is the number; a number is another one times the quotient and what is left. -/
import Derived.Test.YtoonneminimbfaaGreatDoorLB
import Derived.Lib.ItoaLen
namespace Go.Proofs.YtoonneminimbfaaGreatDoor
open Go.RowKit
set_option linter.unusedVariables false
set_option linter.unusedSimpArgs false

/-- What digits read as. -/
def valD (acc : Nat) (l : List UInt8) : Nat := l.foldl (fun a c => a * 10 + (c.toNat - 48)) acc
theorem valD_le (l : List UInt8) : ∀ acc, acc ≤ valD acc l := by
  induction l with
  | nil => intro acc; exact Nat.le_refl _
  | cons c r ih => intro acc; have := ih (acc * 10 + (c.toNat - 48)); simp only [valD, List.foldl_cons] at this ⊢; omega
theorem parseM_val (M : Nat) (hM : M < 18446744073709551616) (l : List UInt8) : ∀ acc, (∀ c ∈ l, isDig c = true) → valD acc l ≤ M → Lib.parseUintM M acc l = .ok (valD acc l) := by
  induction l with
  | nil => intro acc _ _; rfl
  | cons c r ih =>
    intro acc hd hv
    have h1 : 48 ≤ c.toNat ∧ c.toNat ≤ 57 := by have := hd c (List.mem_cons_self ..); simpa [isDig] using this
    have h2 := valD_le r (acc * 10 + (c.toNat - 48))
    have h3 : valD acc (c :: r) = valD (acc * 10 + (c.toNat - 48)) r := rfl
    rw [h3] at hv ⊢
    rw [Lib.parseUintM, if_pos h1, if_neg (by omega), if_neg (by omega)]
    exact ih _ (fun c hc => hd c (List.mem_cons_of_mem _ hc)) hv
theorem digit_of (d : Nat) (h : d < 10) : isDig (UInt8.ofNat (48 + d)) = true ∧ (UInt8.ofNat (48 + d)).toNat = 48 + d := by
  have : (UInt8.ofNat (48 + d)).toNat = 48 + d := by rw [UInt8.toNat_ofNat']; omega
  refine ⟨?_, this⟩
  unfold isDig; rw [this]; simp; omega
theorem dec_isDig (u : Nat) : ∀ c ∈ Lib.decDigits u, isDig c = true := by
  induction u using Nat.strongRecOn with
  | _ u ih =>
    intro c hc
    rw [Lib.decDigits] at hc
    split at hc
    · rename_i h
      rw [List.mem_singleton] at hc; subst hc; exact (digit_of u h).1
    · rename_i h
      rw [List.mem_append, List.mem_singleton] at hc
      rcases hc with hc | hc
      · exact ih (u / 10) (by omega) c hc
      · subst hc; exact (digit_of (u % 10) (by omega)).1
theorem dec_val (u : Nat) : valD 0 (Lib.decDigits u) = u := by
  induction u using Nat.strongRecOn with
  | _ u ih =>
    rw [Lib.decDigits]
    split
    · rename_i h
      show 0 * 10 + ((UInt8.ofNat (48 + u)).toNat - 48) = u
      rw [(digit_of u h).2]; omega
    · rename_i h
      show List.foldl _ _ _ = u
      rw [List.foldl_append]
      have := ih (u / 10) (by omega)
      unfold valD at this
      rw [this]
      show u / 10 * 10 + ((UInt8.ofNat (48 + u % 10)).toNat - 48) = u
      rw [(digit_of (u % 10) (by omega)).2]; omega
theorem dec_head (u : Nat) (hu : 1 ≤ u) : ∃ c r, Lib.decDigits u = c :: r ∧ c.toNat ≠ 48 := by
  induction u using Nat.strongRecOn with
  | _ u ih =>
    rw [Lib.decDigits]
    split
    · rename_i h
      exact ⟨_, [], rfl, by rw [(digit_of u h).2]; omega⟩
    · rename_i h
      obtain ⟨c, r, e, hc⟩ := ih (u / 10) (by omega) (by omega)
      exact ⟨c, r ++ [UInt8.ofNat (48 + u % 10)], by rw [e]; rfl, hc⟩
theorem digN_all (l : List UInt8) (h : ∀ c ∈ l, isDig c = true) : digN l = l.length := digN_at (Nat.le_refl _) (fun c hc => h c (List.mem_of_mem_take hc)) (Or.inl rfl)

theorem natV_dec (u : Nat) : natV (Lib.decDigits u) = true := by
  rcases Nat.eq_zero_or_pos u with rfl | hu
  · decide +kernel
  · obtain ⟨c, r, e, hc⟩ := dec_head u hu
    have h := digN_all _ (dec_isDig u)
    rw [e] at h ⊢
    unfold natV
    rw [h]
    have : c ≠ 48 := fun e => hc (by rw [e]; rfl)
    simp [this]
theorem natV_neg (u : Nat) : natV (45 :: Lib.decDigits u) = false := by
  have : digN (45 :: Lib.decDigits u) = 0 := by unfold digN; rw [List.takeWhile_cons]; rfl
  unfold natV; rw [this]; simp
theorem parse_dec (u : Nat) (hu : u ≤ 9223372036854775807) : Lib.parseIntB 64 (Lib.decDigits u) = .ok (u : Int) := by
  have hv : Lib.parseUintB 64 (Lib.decDigits u) = .ok u := by
    unfold Lib.parseUintB
    have hne : Lib.decDigits u ≠ [] := by
      intro e
      have : 0 < (Lib.decDigits u).length := by rw [Lib.decDigits_length]; exact Lib.nDigits_pos u
      rw [e] at this; simp at this
    rw [if_neg hne]
    have h1 := parseM_val (2 ^ 64 - 1) (by decide) (Lib.decDigits u) 0 (dec_isDig u)
    rw [dec_val] at h1
    exact h1 (by omega)
  have hd := dec_isDig u
  cases hl : Lib.decDigits u with
  | nil => rw [hl] at hv; cases hv
  | cons c r =>
    rw [hl] at hv hd
    have h1 : 48 ≤ c.toNat ∧ c.toNat ≤ 57 := by have := hd c (List.mem_cons_self ..); simpa [isDig] using this
    unfold Lib.parseIntB
    simp only
    rw [if_neg (by omega), hv]
    simp only
    have hneg : ¬ c.toNat = 45 := by omega
    rw [if_neg (by omega), if_neg (by omega), if_neg hneg]

theorem natV_itoa (a : Int) (h : 0 ≤ a) : natV (Lib.itoa a) = true := by
  obtain ⟨u, rfl⟩ : ∃ u : Nat, a = u := ⟨a.toNat, by omega⟩
  rw [Lib.itoa_nonneg]; exact natV_dec u
theorem natV_itoa_neg (a : Int) (h : a < 0) : natV (Lib.itoa a) = false := by
  obtain ⟨u, rfl⟩ : ∃ u : Nat, a = -(u : Int) := ⟨a.natAbs, by omega⟩
  rw [Lib.itoa_neg u (by omega)]; exact natV_neg u
theorem parse_itoa (a : Int) (h : 0 ≤ a) (h1 : a ≤ 9223372036854775807) : Lib.parseIntB 64 (Lib.itoa a) = .ok a := by
  obtain ⟨u, rfl⟩ : ∃ u : Nat, a = u := ⟨a.toNat, by omega⟩
  rw [Lib.itoa_nonneg]; exact parse_dec u (by omega)

theorem int_nat (s : ByteArray) (v : Int) (hs : s.size ≤ 9223372036854775806) (hn : natV s.data.toList = true) (hp : Lib.parseIntB 64 s.data.toList = .ok v) (w : World) :
    Calls Tryz.prog 13 #[.string s] w fun e w' => e = .returned (.tuple #[.int .i64 v, .int .i64 0]) ∧ Below w.heap.size w w' := by
  have HN := Lib.hid (natural_any s w (by omega))
  rw [hn] at HN
  have HP := Lib.hid (Tryz.strconv_ParseInt_10_at64_ok s hs v hp w)
  clear hn hp
  go_enter Tryz.func13, Tryz.ntmps13
  go_wp2_with (first | (go_at_call 51; refine HN.out.mono ?_; rintro e w' ⟨rfl, rfl⟩) | (go_at_call 52; refine HP.out.mono ?_; rintro e w1 ⟨rfl, hw1⟩))
  go_ret2
  refine ⟨rfl, ?_⟩
  rcases hw1 with rfl | ⟨t, rfl⟩
  · exact Below.refl _ _
  · exact Go.Joins.below_bytesWorld _ _ _ _ (Nat.le_refl _)
theorem int_not (s : ByteArray) (hs : s.size ≤ 9223372036854775806) (hn : natV s.data.toList = false) (w : World) :
    Calls Tryz.prog 13 #[.string s] w fun e w' => e = .returned (.tuple #[.int .i64 0, .int .i64 4]) ∧ w = w' := by
  have HN := Lib.hid (natural_any s w (by omega))
  rw [hn] at HN
  clear hn
  go_enter Tryz.func13, Tryz.ntmps13
  go_wp2_with (go_at_call 51; refine HN.out.mono ?_; rintro e w' ⟨rfl, rfl⟩)
  go_ret2
  exact ⟨rfl, rfl⟩

/-- The text, and what it reads as. -/
theorem glob_awake (w w' : World) (h : Glob w) (hb : Below w.heap.size w w') :
    Calls Tryz.prog 18 #[] w' fun e w'' => e = .returned (.bool true) ∧ Below w.heap.size w w'' :=
  (awake_any w' (h.below hb)).mono fun e w'' ⟨he, hb'⟩ => ⟨he, hb.trans (hb'.mono hb.size)⟩
theorem int_text (a : Int) (h0 : 0 ≤ a) (h1 : a ≤ 9223372036854775807) (w w' : World) (hb : Below w.heap.size w w') :
    Calls Tryz.prog 13 #[.string ⟨(Lib.itoa a).toArray⟩] w' fun e w'' => e = .returned (.tuple #[.int .i64 a, .int .i64 0]) ∧ Below w.heap.size w w'' := by
  have hl := Lib.itoa_length_le a (by omega) h1
  have hsz : (⟨(Lib.itoa a).toArray⟩ : ByteArray).size = (Lib.itoa a).length := by simp [ByteArray.size]
  refine (int_nat ⟨(Lib.itoa a).toArray⟩ a (by omega) (by simpa using natV_itoa a h0) (by simpa using parse_itoa a h0 h1) w').mono fun e w'' ⟨he, hb'⟩ => ⟨he, hb.trans (hb'.mono hb.size)⟩
theorem int_text_neg (a : Int) (h0 : a < 0) (h1 : -9223372036854775808 ≤ a) (w' : World) :
    Calls Tryz.prog 13 #[.string ⟨(Lib.itoa a).toArray⟩] w' fun e w'' => e = .returned (.tuple #[.int .i64 0, .int .i64 4]) ∧ w' = w'' := by
  have hl := Lib.itoa_length_le a h1 (by omega)
  have hsz : (⟨(Lib.itoa a).toArray⟩ : ByteArray).size = (Lib.itoa a).length := by simp [ByteArray.size]
  exact int_not ⟨(Lib.itoa a).toArray⟩ (by omega) (by simpa using natV_itoa_neg a h0) w'

set_option maxRecDepth 1000000 in
set_option maxHeartbeats 3200000 in
theorem lawBack_p0 (a b : Int) (w : World) (ha0 : -9223372036854775808 ≤ a) (ha1 : a ≤ 9223372036854775807) (h : Glob w) (ha : 0 ≤ a) :
    Calls Tryz.prog 10 #[.int .i64 a, .int .i64 0] w fun e w' => e = .returned (.bool true) ∧ Below w.heap.size w w' := by
  have HT := Lib.hid (text_any a ha0 ha1 w h)
  have HW := Lib.hid (fun w' hb => glob_awake w w' h hb)
  have HI := Lib.hid (fun w' hb => int_text a ha ha1 w w' hb)
  have d1 : decide (a ≥ 0) = true := by simpa using ha
  have d2 : decide (a < 0) = false := by simp; omega
  have d3 : a ≥ 0 := ha
  have d3b : ¬ a < 0 := by omega
  have DZ := Lib.hid (fun w => div_zero a w)
  have RZ := Lib.hid (fun w => rem_zero a w)
  clear h
  go_enter Tryz.func10, Tryz.ntmps10
  go_wp2_with (first | (go_at_call 19; refine HT.out.mono ?_; rintro e w1 ⟨rfl, hb1⟩) | (go_at_call 13; refine (HI.out _ hb1).mono ?_; rintro e w2 ⟨rfl, hb2⟩) | (go_at_call 45; refine (DZ.out _).mono ?_; rintro e w1 ⟨rfl, rfl⟩) | (go_at_call 46; refine (RZ.out _).mono ?_; rintro e w1 ⟨rfl, rfl⟩) | (go_at_call 18; refine (HW.out _ hb2).mono ?_; rintro e w3 ⟨rfl, hb3⟩))
  go_ret
  exact ⟨rfl, hb3⟩

set_option maxRecDepth 1000000 in
set_option maxHeartbeats 3200000 in
theorem lawBack_pzp (a b q r : Int) (w : World) (ha0 : -9223372036854775808 ≤ a) (ha1 : a ≤ 9223372036854775807) (h : Glob w) (ha : 0 ≤ a) (hq : RowKit.Hid (∀ w, Calls Tryz.prog 45 #[.int .i64 a, .int .i64 b] w fun e w' => e = .returned (.tuple #[.int .i64 q, .bool true]) ∧ w = w')) (hr : RowKit.Hid (∀ w, Calls Tryz.prog 46 #[.int .i64 a, .int .i64 b] w fun e w' => e = .returned (.tuple #[.int .i64 r, .bool true]) ∧ w = w')) (hs : wrap64 (wrap64 (b * q)) = a) (hr0 : r = 0) (hb : 0 < b) (hwb : wrap64 (-b) = -b) (hc : -b < 0) :
    Calls Tryz.prog 10 #[.int .i64 a, .int .i64 b] w fun e w' => e = .returned (.bool true) ∧ Below w.heap.size w w' := by
  subst hr0
  have HT := Lib.hid (text_any a ha0 ha1 w h)
  have HW := Lib.hid (fun w' hb => glob_awake w w' h hb)
  have HI := Lib.hid (fun w' hb => int_text a ha ha1 w w' hb)
  have d1 : decide (a ≥ 0) = true := by simpa using ha
  have d2 : decide (a < 0) = false := by simp; omega
  have d3 : a ≥ 0 := ha
  have d3b : ¬ a < 0 := by omega
  have A := Lib.hid (fun x y => add_any x y)
  have M := Lib.hid (fun x y => mul_any x y)
  have e1 : (b != 0) = true := by simp; omega
  have e2 : ¬ b = 0 := by omega
  have b5 : decide (b > 0) = true := by simpa using hb
  have b6 : b > 0 := hb
  have c5 : decide (0 > -b) = true := by simpa using hc
  have c6 : 0 > -b := hc
  have hs0 := hs
  clear h
  go_enter Tryz.func10, Tryz.ntmps10
  go_wp2_with (first | (go_at_call 19; refine HT.out.mono ?_; rintro e w1 ⟨rfl, hb1⟩) | (go_at_call 13; refine (HI.out _ hb1).mono ?_; rintro e w2 ⟨rfl, hb2⟩) | (go_at_call 45; refine (hq.out _).mono ?_; rintro e w1 ⟨rfl, rfl⟩) | (go_at_call 46; refine (hr.out _).mono ?_; rintro e w1 ⟨rfl, rfl⟩) | (go_at_call 29; refine (A.out _ _ _).mono ?_; rintro e w' ⟨rfl, rfl⟩) | (go_at_call 30; refine (M.out _ _ _).mono ?_; rintro e w' ⟨rfl, rfl⟩) | (go_at_call 18; refine (HW.out _ hb2).mono ?_; rintro e w3 ⟨rfl, hb3⟩))
  go_ret
  exact ⟨rfl, hb3⟩

set_option maxRecDepth 1000000 in
set_option maxHeartbeats 3200000 in
theorem lawBack_pzn (a b q r : Int) (w : World) (ha0 : -9223372036854775808 ≤ a) (ha1 : a ≤ 9223372036854775807) (h : Glob w) (ha : 0 ≤ a) (hq : RowKit.Hid (∀ w, Calls Tryz.prog 45 #[.int .i64 a, .int .i64 b] w fun e w' => e = .returned (.tuple #[.int .i64 q, .bool true]) ∧ w = w')) (hr : RowKit.Hid (∀ w, Calls Tryz.prog 46 #[.int .i64 a, .int .i64 b] w fun e w' => e = .returned (.tuple #[.int .i64 r, .bool true]) ∧ w = w')) (hs : wrap64 (wrap64 (b * q)) = a) (hr0 : r = 0) (hb : b < 0) (hc : b < 0) :
    Calls Tryz.prog 10 #[.int .i64 a, .int .i64 b] w fun e w' => e = .returned (.bool true) ∧ Below w.heap.size w w' := by
  subst hr0
  have HT := Lib.hid (text_any a ha0 ha1 w h)
  have HW := Lib.hid (fun w' hb => glob_awake w w' h hb)
  have HI := Lib.hid (fun w' hb => int_text a ha ha1 w w' hb)
  have d1 : decide (a ≥ 0) = true := by simpa using ha
  have d2 : decide (a < 0) = false := by simp; omega
  have d3 : a ≥ 0 := ha
  have d3b : ¬ a < 0 := by omega
  have A := Lib.hid (fun x y => add_any x y)
  have M := Lib.hid (fun x y => mul_any x y)
  have e1 : (b != 0) = true := by simp; omega
  have e2 : ¬ b = 0 := by omega
  have b5 : decide (b > 0) = false := by simp; omega
  have b6 : ¬ b > 0 := by omega
  have c5 : decide (0 > b) = true := by simpa using hc
  have c6 : 0 > b := hc
  have hs0 := hs
  clear h
  go_enter Tryz.func10, Tryz.ntmps10
  go_wp2_with (first | (go_at_call 19; refine HT.out.mono ?_; rintro e w1 ⟨rfl, hb1⟩) | (go_at_call 13; refine (HI.out _ hb1).mono ?_; rintro e w2 ⟨rfl, hb2⟩) | (go_at_call 45; refine (hq.out _).mono ?_; rintro e w1 ⟨rfl, rfl⟩) | (go_at_call 46; refine (hr.out _).mono ?_; rintro e w1 ⟨rfl, rfl⟩) | (go_at_call 29; refine (A.out _ _ _).mono ?_; rintro e w' ⟨rfl, rfl⟩) | (go_at_call 30; refine (M.out _ _ _).mono ?_; rintro e w' ⟨rfl, rfl⟩) | (go_at_call 18; refine (HW.out _ hb2).mono ?_; rintro e w3 ⟨rfl, hb3⟩))
  go_ret
  exact ⟨rfl, hb3⟩

set_option maxRecDepth 1000000 in
set_option maxHeartbeats 3200000 in
theorem lawBack_ppp (a b q r : Int) (w : World) (ha0 : -9223372036854775808 ≤ a) (ha1 : a ≤ 9223372036854775807) (h : Glob w) (ha : 0 ≤ a) (hq : RowKit.Hid (∀ w, Calls Tryz.prog 45 #[.int .i64 a, .int .i64 b] w fun e w' => e = .returned (.tuple #[.int .i64 q, .bool true]) ∧ w = w')) (hr : RowKit.Hid (∀ w, Calls Tryz.prog 46 #[.int .i64 a, .int .i64 b] w fun e w' => e = .returned (.tuple #[.int .i64 r, .bool true]) ∧ w = w')) (hs : wrap64 (wrap64 (b * q) + r) = a) (hr0 : 0 < r) (hb : 0 < b) (hwb : wrap64 (-b) = -b) (hwr : wrap64 (-r) = -r) (hc : -b < -r) :
    Calls Tryz.prog 10 #[.int .i64 a, .int .i64 b] w fun e w' => e = .returned (.bool true) ∧ Below w.heap.size w w' := by
  have HT := Lib.hid (text_any a ha0 ha1 w h)
  have HW := Lib.hid (fun w' hb => glob_awake w w' h hb)
  have HI := Lib.hid (fun w' hb => int_text a ha ha1 w w' hb)
  have d1 : decide (a ≥ 0) = true := by simpa using ha
  have d2 : decide (a < 0) = false := by simp; omega
  have d3 : a ≥ 0 := ha
  have d3b : ¬ a < 0 := by omega
  have A := Lib.hid (fun x y => add_any x y)
  have M := Lib.hid (fun x y => mul_any x y)
  have e1 : (b != 0) = true := by simp; omega
  have e2 : ¬ b = 0 := by omega
  have r1 : (r != 0) = true := by simp; omega
  have r2 : ¬ r = 0 := by omega
  have r3 : decide (r < 0) = false := by simp; omega
  have r4 : ¬ r < 0 := by omega
  have r5 : decide (r > 0) = true := by simpa using hr0
  have r6 : r > 0 := hr0
  have b5 : decide (b > 0) = true := by simpa using hb
  have b6 : b > 0 := hb
  have c5 : decide (-r > -b) = true := by simpa using hc
  have c6 : -r > -b := hc
  clear h
  go_enter Tryz.func10, Tryz.ntmps10
  go_wp2_with (first | (go_at_call 19; refine HT.out.mono ?_; rintro e w1 ⟨rfl, hb1⟩) | (go_at_call 13; refine (HI.out _ hb1).mono ?_; rintro e w2 ⟨rfl, hb2⟩) | (go_at_call 45; refine (hq.out _).mono ?_; rintro e w1 ⟨rfl, rfl⟩) | (go_at_call 46; refine (hr.out _).mono ?_; rintro e w1 ⟨rfl, rfl⟩) | (go_at_call 29; refine (A.out _ _ _).mono ?_; rintro e w' ⟨rfl, rfl⟩) | (go_at_call 30; refine (M.out _ _ _).mono ?_; rintro e w' ⟨rfl, rfl⟩) | (go_at_call 18; refine (HW.out _ hb2).mono ?_; rintro e w3 ⟨rfl, hb3⟩))
  go_ret
  exact ⟨rfl, hb3⟩

set_option maxRecDepth 1000000 in
set_option maxHeartbeats 3200000 in
theorem lawBack_ppn (a b q r : Int) (w : World) (ha0 : -9223372036854775808 ≤ a) (ha1 : a ≤ 9223372036854775807) (h : Glob w) (ha : 0 ≤ a) (hq : RowKit.Hid (∀ w, Calls Tryz.prog 45 #[.int .i64 a, .int .i64 b] w fun e w' => e = .returned (.tuple #[.int .i64 q, .bool true]) ∧ w = w')) (hr : RowKit.Hid (∀ w, Calls Tryz.prog 46 #[.int .i64 a, .int .i64 b] w fun e w' => e = .returned (.tuple #[.int .i64 r, .bool true]) ∧ w = w')) (hs : wrap64 (wrap64 (b * q) + r) = a) (hr0 : 0 < r) (hb : b < 0) (hwr : wrap64 (-r) = -r) (hc : b < -r) :
    Calls Tryz.prog 10 #[.int .i64 a, .int .i64 b] w fun e w' => e = .returned (.bool true) ∧ Below w.heap.size w w' := by
  have HT := Lib.hid (text_any a ha0 ha1 w h)
  have HW := Lib.hid (fun w' hb => glob_awake w w' h hb)
  have HI := Lib.hid (fun w' hb => int_text a ha ha1 w w' hb)
  have d1 : decide (a ≥ 0) = true := by simpa using ha
  have d2 : decide (a < 0) = false := by simp; omega
  have d3 : a ≥ 0 := ha
  have d3b : ¬ a < 0 := by omega
  have A := Lib.hid (fun x y => add_any x y)
  have M := Lib.hid (fun x y => mul_any x y)
  have e1 : (b != 0) = true := by simp; omega
  have e2 : ¬ b = 0 := by omega
  have r1 : (r != 0) = true := by simp; omega
  have r2 : ¬ r = 0 := by omega
  have r3 : decide (r < 0) = false := by simp; omega
  have r4 : ¬ r < 0 := by omega
  have r5 : decide (r > 0) = true := by simpa using hr0
  have r6 : r > 0 := hr0
  have b5 : decide (b > 0) = false := by simp; omega
  have b6 : ¬ b > 0 := by omega
  have c5 : decide (-r > b) = true := by simpa using hc
  have c6 : -r > b := hc
  clear h
  go_enter Tryz.func10, Tryz.ntmps10
  go_wp2_with (first | (go_at_call 19; refine HT.out.mono ?_; rintro e w1 ⟨rfl, hb1⟩) | (go_at_call 13; refine (HI.out _ hb1).mono ?_; rintro e w2 ⟨rfl, hb2⟩) | (go_at_call 45; refine (hq.out _).mono ?_; rintro e w1 ⟨rfl, rfl⟩) | (go_at_call 46; refine (hr.out _).mono ?_; rintro e w1 ⟨rfl, rfl⟩) | (go_at_call 29; refine (A.out _ _ _).mono ?_; rintro e w' ⟨rfl, rfl⟩) | (go_at_call 30; refine (M.out _ _ _).mono ?_; rintro e w' ⟨rfl, rfl⟩) | (go_at_call 18; refine (HW.out _ hb2).mono ?_; rintro e w3 ⟨rfl, hb3⟩))
  go_ret
  exact ⟨rfl, hb3⟩

set_option maxRecDepth 1000000 in
set_option maxHeartbeats 3200000 in
theorem lawBack_n0 (a b : Int) (w : World) (ha0 : -9223372036854775808 ≤ a) (ha1 : a ≤ 9223372036854775807) (h : Glob w) (ha : a < 0) :
    Calls Tryz.prog 10 #[.int .i64 a, .int .i64 0] w fun e w' => e = .returned (.bool true) ∧ Below w.heap.size w w' := by
  have HT := Lib.hid (text_any a ha0 ha1 w h)
  have HW := Lib.hid (fun w' hb => glob_awake w w' h hb)
  have HI := Lib.hid (fun w' => int_text_neg a ha ha0 w')
  have d1 : decide (a ≥ 0) = false := by simp; omega
  have d2 : decide (a < 0) = true := by simpa using ha
  have d3 : ¬ a ≥ 0 := by omega
  have DZ := Lib.hid (fun w => div_zero a w)
  have RZ := Lib.hid (fun w => rem_zero a w)
  clear h
  go_enter Tryz.func10, Tryz.ntmps10
  go_wp2_with (first | (go_at_call 19; refine HT.out.mono ?_; rintro e w1 ⟨rfl, hb1⟩) | (go_at_call 13; refine (HI.out _).mono ?_; rintro e w1 ⟨rfl, rfl⟩) | (go_at_call 45; refine (DZ.out _).mono ?_; rintro e w1 ⟨rfl, rfl⟩) | (go_at_call 46; refine (RZ.out _).mono ?_; rintro e w1 ⟨rfl, rfl⟩) | (go_at_call 18; refine (HW.out _ hb1).mono ?_; rintro e w3 ⟨rfl, hb3⟩))
  go_ret
  exact ⟨rfl, hb3⟩

set_option maxRecDepth 1000000 in
set_option maxHeartbeats 3200000 in
theorem lawBack_nzp (a b q r : Int) (w : World) (ha0 : -9223372036854775808 ≤ a) (ha1 : a ≤ 9223372036854775807) (h : Glob w) (ha : a < 0) (hq : RowKit.Hid (∀ w, Calls Tryz.prog 45 #[.int .i64 a, .int .i64 b] w fun e w' => e = .returned (.tuple #[.int .i64 q, .bool true]) ∧ w = w')) (hr : RowKit.Hid (∀ w, Calls Tryz.prog 46 #[.int .i64 a, .int .i64 b] w fun e w' => e = .returned (.tuple #[.int .i64 r, .bool true]) ∧ w = w')) (hs : wrap64 (wrap64 (b * q)) = a) (hr0 : r = 0) (hb : 0 < b) (hwb : wrap64 (-b) = -b) (hc : -b < 0) :
    Calls Tryz.prog 10 #[.int .i64 a, .int .i64 b] w fun e w' => e = .returned (.bool true) ∧ Below w.heap.size w w' := by
  subst hr0
  have HT := Lib.hid (text_any a ha0 ha1 w h)
  have HW := Lib.hid (fun w' hb => glob_awake w w' h hb)
  have HI := Lib.hid (fun w' => int_text_neg a ha ha0 w')
  have d1 : decide (a ≥ 0) = false := by simp; omega
  have d2 : decide (a < 0) = true := by simpa using ha
  have d3 : ¬ a ≥ 0 := by omega
  have A := Lib.hid (fun x y => add_any x y)
  have M := Lib.hid (fun x y => mul_any x y)
  have e1 : (b != 0) = true := by simp; omega
  have e2 : ¬ b = 0 := by omega
  have b5 : decide (b > 0) = true := by simpa using hb
  have b6 : b > 0 := hb
  have c5 : decide (0 > -b) = true := by simpa using hc
  have c6 : 0 > -b := hc
  have hs0 := hs
  clear h
  go_enter Tryz.func10, Tryz.ntmps10
  go_wp2_with (first | (go_at_call 19; refine HT.out.mono ?_; rintro e w1 ⟨rfl, hb1⟩) | (go_at_call 13; refine (HI.out _).mono ?_; rintro e w1 ⟨rfl, rfl⟩) | (go_at_call 45; refine (hq.out _).mono ?_; rintro e w1 ⟨rfl, rfl⟩) | (go_at_call 46; refine (hr.out _).mono ?_; rintro e w1 ⟨rfl, rfl⟩) | (go_at_call 29; refine (A.out _ _ _).mono ?_; rintro e w' ⟨rfl, rfl⟩) | (go_at_call 30; refine (M.out _ _ _).mono ?_; rintro e w' ⟨rfl, rfl⟩) | (go_at_call 18; refine (HW.out _ hb1).mono ?_; rintro e w3 ⟨rfl, hb3⟩))
  go_ret
  exact ⟨rfl, hb3⟩

set_option maxRecDepth 1000000 in
set_option maxHeartbeats 3200000 in
theorem lawBack_nzn (a b q r : Int) (w : World) (ha0 : -9223372036854775808 ≤ a) (ha1 : a ≤ 9223372036854775807) (h : Glob w) (ha : a < 0) (hq : RowKit.Hid (∀ w, Calls Tryz.prog 45 #[.int .i64 a, .int .i64 b] w fun e w' => e = .returned (.tuple #[.int .i64 q, .bool true]) ∧ w = w')) (hr : RowKit.Hid (∀ w, Calls Tryz.prog 46 #[.int .i64 a, .int .i64 b] w fun e w' => e = .returned (.tuple #[.int .i64 r, .bool true]) ∧ w = w')) (hs : wrap64 (wrap64 (b * q)) = a) (hr0 : r = 0) (hb : b < 0) (hc : b < 0) :
    Calls Tryz.prog 10 #[.int .i64 a, .int .i64 b] w fun e w' => e = .returned (.bool true) ∧ Below w.heap.size w w' := by
  subst hr0
  have HT := Lib.hid (text_any a ha0 ha1 w h)
  have HW := Lib.hid (fun w' hb => glob_awake w w' h hb)
  have HI := Lib.hid (fun w' => int_text_neg a ha ha0 w')
  have d1 : decide (a ≥ 0) = false := by simp; omega
  have d2 : decide (a < 0) = true := by simpa using ha
  have d3 : ¬ a ≥ 0 := by omega
  have A := Lib.hid (fun x y => add_any x y)
  have M := Lib.hid (fun x y => mul_any x y)
  have e1 : (b != 0) = true := by simp; omega
  have e2 : ¬ b = 0 := by omega
  have b5 : decide (b > 0) = false := by simp; omega
  have b6 : ¬ b > 0 := by omega
  have c5 : decide (0 > b) = true := by simpa using hc
  have c6 : 0 > b := hc
  have hs0 := hs
  clear h
  go_enter Tryz.func10, Tryz.ntmps10
  go_wp2_with (first | (go_at_call 19; refine HT.out.mono ?_; rintro e w1 ⟨rfl, hb1⟩) | (go_at_call 13; refine (HI.out _).mono ?_; rintro e w1 ⟨rfl, rfl⟩) | (go_at_call 45; refine (hq.out _).mono ?_; rintro e w1 ⟨rfl, rfl⟩) | (go_at_call 46; refine (hr.out _).mono ?_; rintro e w1 ⟨rfl, rfl⟩) | (go_at_call 29; refine (A.out _ _ _).mono ?_; rintro e w' ⟨rfl, rfl⟩) | (go_at_call 30; refine (M.out _ _ _).mono ?_; rintro e w' ⟨rfl, rfl⟩) | (go_at_call 18; refine (HW.out _ hb1).mono ?_; rintro e w3 ⟨rfl, hb3⟩))
  go_ret
  exact ⟨rfl, hb3⟩

set_option maxRecDepth 1000000 in
set_option maxHeartbeats 3200000 in
theorem lawBack_nnp (a b q r : Int) (w : World) (ha0 : -9223372036854775808 ≤ a) (ha1 : a ≤ 9223372036854775807) (h : Glob w) (ha : a < 0) (hq : RowKit.Hid (∀ w, Calls Tryz.prog 45 #[.int .i64 a, .int .i64 b] w fun e w' => e = .returned (.tuple #[.int .i64 q, .bool true]) ∧ w = w')) (hr : RowKit.Hid (∀ w, Calls Tryz.prog 46 #[.int .i64 a, .int .i64 b] w fun e w' => e = .returned (.tuple #[.int .i64 r, .bool true]) ∧ w = w')) (hs : wrap64 (wrap64 (b * q) + r) = a) (hr0 : r < 0) (hb : 0 < b) (hwb : wrap64 (-b) = -b) (hc : -b < r) :
    Calls Tryz.prog 10 #[.int .i64 a, .int .i64 b] w fun e w' => e = .returned (.bool true) ∧ Below w.heap.size w w' := by
  have HT := Lib.hid (text_any a ha0 ha1 w h)
  have HW := Lib.hid (fun w' hb => glob_awake w w' h hb)
  have HI := Lib.hid (fun w' => int_text_neg a ha ha0 w')
  have d1 : decide (a ≥ 0) = false := by simp; omega
  have d2 : decide (a < 0) = true := by simpa using ha
  have d3 : ¬ a ≥ 0 := by omega
  have A := Lib.hid (fun x y => add_any x y)
  have M := Lib.hid (fun x y => mul_any x y)
  have e1 : (b != 0) = true := by simp; omega
  have e2 : ¬ b = 0 := by omega
  have r1 : (r != 0) = true := by simp; omega
  have r2 : ¬ r = 0 := by omega
  have r3 : decide (r < 0) = true := by simpa using hr0
  have r5 : decide (r > 0) = false := by simp; omega
  have r6 : ¬ r > 0 := by omega
  have b5 : decide (b > 0) = true := by simpa using hb
  have b6 : b > 0 := hb
  have c5 : decide (r > -b) = true := by simpa using hc
  have c6 : r > -b := hc
  clear h
  go_enter Tryz.func10, Tryz.ntmps10
  go_wp2_with (first | (go_at_call 19; refine HT.out.mono ?_; rintro e w1 ⟨rfl, hb1⟩) | (go_at_call 13; refine (HI.out _).mono ?_; rintro e w1 ⟨rfl, rfl⟩) | (go_at_call 45; refine (hq.out _).mono ?_; rintro e w1 ⟨rfl, rfl⟩) | (go_at_call 46; refine (hr.out _).mono ?_; rintro e w1 ⟨rfl, rfl⟩) | (go_at_call 29; refine (A.out _ _ _).mono ?_; rintro e w' ⟨rfl, rfl⟩) | (go_at_call 30; refine (M.out _ _ _).mono ?_; rintro e w' ⟨rfl, rfl⟩) | (go_at_call 18; refine (HW.out _ hb1).mono ?_; rintro e w3 ⟨rfl, hb3⟩))
  go_ret
  exact ⟨rfl, hb3⟩

set_option maxRecDepth 1000000 in
set_option maxHeartbeats 3200000 in
theorem lawBack_nnn (a b q r : Int) (w : World) (ha0 : -9223372036854775808 ≤ a) (ha1 : a ≤ 9223372036854775807) (h : Glob w) (ha : a < 0) (hq : RowKit.Hid (∀ w, Calls Tryz.prog 45 #[.int .i64 a, .int .i64 b] w fun e w' => e = .returned (.tuple #[.int .i64 q, .bool true]) ∧ w = w')) (hr : RowKit.Hid (∀ w, Calls Tryz.prog 46 #[.int .i64 a, .int .i64 b] w fun e w' => e = .returned (.tuple #[.int .i64 r, .bool true]) ∧ w = w')) (hs : wrap64 (wrap64 (b * q) + r) = a) (hr0 : r < 0) (hb : b < 0) (hc : b < r) :
    Calls Tryz.prog 10 #[.int .i64 a, .int .i64 b] w fun e w' => e = .returned (.bool true) ∧ Below w.heap.size w w' := by
  have HT := Lib.hid (text_any a ha0 ha1 w h)
  have HW := Lib.hid (fun w' hb => glob_awake w w' h hb)
  have HI := Lib.hid (fun w' => int_text_neg a ha ha0 w')
  have d1 : decide (a ≥ 0) = false := by simp; omega
  have d2 : decide (a < 0) = true := by simpa using ha
  have d3 : ¬ a ≥ 0 := by omega
  have A := Lib.hid (fun x y => add_any x y)
  have M := Lib.hid (fun x y => mul_any x y)
  have e1 : (b != 0) = true := by simp; omega
  have e2 : ¬ b = 0 := by omega
  have r1 : (r != 0) = true := by simp; omega
  have r2 : ¬ r = 0 := by omega
  have r3 : decide (r < 0) = true := by simpa using hr0
  have r5 : decide (r > 0) = false := by simp; omega
  have r6 : ¬ r > 0 := by omega
  have b5 : decide (b > 0) = false := by simp; omega
  have b6 : ¬ b > 0 := by omega
  have c5 : decide (r > b) = true := by simpa using hc
  have c6 : r > b := hc
  clear h
  go_enter Tryz.func10, Tryz.ntmps10
  go_wp2_with (first | (go_at_call 19; refine HT.out.mono ?_; rintro e w1 ⟨rfl, hb1⟩) | (go_at_call 13; refine (HI.out _).mono ?_; rintro e w1 ⟨rfl, rfl⟩) | (go_at_call 45; refine (hq.out _).mono ?_; rintro e w1 ⟨rfl, rfl⟩) | (go_at_call 46; refine (hr.out _).mono ?_; rintro e w1 ⟨rfl, rfl⟩) | (go_at_call 29; refine (A.out _ _ _).mono ?_; rintro e w' ⟨rfl, rfl⟩) | (go_at_call 30; refine (M.out _ _ _).mono ?_; rintro e w' ⟨rfl, rfl⟩) | (go_at_call 18; refine (HW.out _ hb1).mono ?_; rintro e w3 ⟨rfl, hb3⟩))
  go_ret
  exact ⟨rfl, hb3⟩

theorem mul_tdiv_add (a b : Int) : b * a.tdiv b + a.tmod b = a := Int.mul_tdiv_add_tmod a b
theorem lawBack (a b : Int) (w : World) (ha0 : -9223372036854775808 ≤ a) (ha1 : a ≤ 9223372036854775807) (hb0 : -9223372036854775808 ≤ b) (hb1 : b ≤ 9223372036854775807) (h : Glob w) :
    Calls Tryz.prog 10 #[.int .i64 a, .int .i64 b] w fun e w' => e = .returned (.bool true) ∧ Below w.heap.size w w' := by
  by_cases hb : b = 0
  · subst hb
    by_cases ha : a < 0
    · exact lawBack_n0 a 0 w ha0 ha1 h ha
    · exact lawBack_p0 a 0 w ha0 ha1 h (by omega)
  · have hq := Lib.hid (fun w => div_any a b w hb)
    have hr := Lib.hid (fun w => rem_any a b w hb)
    have hs : wrap64 (wrap64 (b * wrap64 (a.tdiv b)) + a.tmod b) = a := by
      rw [wrap_add_l, ← wrap_add_l (b * wrap64 _), wrap_mul_r, wrap_add_l, mul_tdiv_add, wrap_in a ha0 ha1]
    generalize wrap64 (a.tdiv b) = q at hq hs
    rcases Int.lt_or_le 0 b with hbp | hbn
    · have hlt : (a.tmod b) < b := Int.tmod_lt_of_pos a hbp
      have hgt : -b < a.tmod b := by
        have h1 := Int.tmod_lt_of_pos (-a) hbp
        rw [Int.neg_tmod] at h1; omega
      have hwb : wrap64 (-b) = -b := wrap_in _ (by omega) (by omega)
      by_cases ha : a < 0
      · have hle : a.tmod b ≤ 0 := by
          have h1 := Int.tmod_nonneg b (a := -a) (by omega)
          rw [Int.neg_tmod] at h1; omega
        generalize a.tmod b = r at *
        by_cases hr0 : r = 0
        · subst hr0; exact lawBack_nzp a b q 0 w ha0 ha1 h ha hq hr (by simpa using hs) rfl hbp hwb (by omega)
        · exact lawBack_nnp a b q r w ha0 ha1 h ha hq hr hs (by omega) hbp hwb (by omega)
      · have hle : 0 ≤ a.tmod b := Int.tmod_nonneg b (by omega)
        generalize a.tmod b = r at *
        by_cases hr0 : r = 0
        · subst hr0; exact lawBack_pzp a b q 0 w ha0 ha1 h (by omega) hq hr (by simpa using hs) rfl hbp hwb (by omega)
        · exact lawBack_ppp a b q r w ha0 ha1 h (by omega) hq hr hs (by omega) hbp hwb (wrap_in _ (by omega) (by omega)) (by omega)
    · have hbn' : b < 0 := by omega
      have hlt : (a.tmod b) < -b := by rw [← Int.tmod_neg]; exact Int.tmod_lt_of_pos a (by omega)
      have hgt : b < a.tmod b := by
        have h1 := Int.tmod_lt_of_pos (-a) (b := -b) (by omega)
        rw [Int.neg_tmod, Int.tmod_neg] at h1; omega
      by_cases ha : a < 0
      · have hle : a.tmod b ≤ 0 := by
          have h1 := Int.tmod_nonneg b (a := -a) (by omega)
          rw [Int.neg_tmod] at h1; omega
        generalize a.tmod b = r at *
        by_cases hr0 : r = 0
        · subst hr0; exact lawBack_nzn a b q 0 w ha0 ha1 h ha hq hr (by simpa using hs) rfl hbn' (by omega)
        · exact lawBack_nnn a b q r w ha0 ha1 h ha hq hr hs (by omega) hbn' (by omega)
      · have hle : 0 ≤ a.tmod b := Int.tmod_nonneg b (by omega)
        generalize a.tmod b = r at *
        by_cases hr0 : r = 0
        · subst hr0; exact lawBack_pzn a b q 0 w ha0 ha1 h (by omega) hq hr (by simpa using hs) rfl hbn' (by omega)
        · exact lawBack_ppn a b q r w ha0 ha1 h (by omega) hq hr hs (by omega) hbn' (wrap_in _ (by omega) (by omega)) (by omega)
end Go.Proofs.YtoonneminimbfaaGreatDoor
