/- emendref01.Mul. -/
import Derived.Test.YtoonneminimbfaaGreatDoorTimes
import Derived.Test.YtoonneminimbfaaGreatDoorRing
namespace Go.Proofs.YtoonneminimbfaaGreatDoor
open Go.RowKit
set_option linter.unusedVariables false
set_option linter.unusedSimpArgs false

theorem dg16_dig (n : Nat) : ∀ x ∈ dg16 n, x < 65536 := by
  induction n using Nat.strongRecOn with
  | _ n ih =>
    by_cases h : n = 0
    · subst h; rw [dg16_zero]; intro x hx; cases hx
    · rw [dg16_pos h]
      intro x hx
      rcases List.mem_cons.1 hx with h1 | h1
      · subst h1; exact Nat.mod_lt _ (by decide)
      · exact ih (n / 65536) (by omega) x h1
theorem vl_lt (l : List Nat) (h : ∀ x ∈ l, x < 65536) : vl l < 65536 ^ l.length := by
  induction l with
  | nil => decide
  | cons x l ih =>
    have h1 := h x (List.mem_cons_self ..)
    have h2 := ih (fun y hy => h y (List.mem_cons_of_mem _ hy))
    rw [vl, List.length_cons, Nat.pow_succ]
    omega
theorem vl_take4 (l : List Nat) (h : ∀ x ∈ l, x < 65536) : vl (l.take 4) = vl l % 18446744073709551616 := by
  have e := vl_append (l.take 4) (l.drop 4)
  rw [List.take_append_drop] at e
  have hlt := vl_lt (l.take 4) (fun x hx => h x (List.mem_of_mem_take hx))
  by_cases h4 : 4 ≤ l.length
  · have hl : (l.take 4).length = 4 := by rw [List.length_take]; omega
    rw [hl] at e hlt
    rw [e, show (65536 : Nat) ^ 4 = 18446744073709551616 by decide] at *
    omega
  · have hd : l.drop 4 = [] := List.drop_eq_nil_of_le (by omega)
    rw [hd, vl, Nat.mul_zero, Nat.add_zero] at e
    have : 65536 ^ (l.take 4).length ≤ 65536 ^ 4 := Nat.pow_le_pow_right (by decide) (by rw [List.length_take]; omega)
    rw [show (65536 : Nat) ^ 4 = 18446744073709551616 by decide] at this
    omega
/-- The four lowest digits from place k on. -/
def lowD (l : List Nat) (k : Nat) : Nat := vl ((l.take 4).drop k)
theorem lowD_four (l : List Nat) : lowD l 4 = 0 := by unfold lowD; rw [List.drop_eq_nil_of_le (by rw [List.length_take]; omega)]; rfl
theorem lowD_in {l : List Nat} {k x : Nat} (hx : l[k]? = some x) (hk : k < 4) : lowD l k = lowD l (k + 1) * 65536 + x := by
  unfold lowD
  have : (l.take 4)[k]? = some x := by rw [List.getElem?_take, if_pos hk]; exact hx
  rw [drop_cons this, vl]; omega
theorem lowD_out {l : List Nat} {k : Nat} (h : l.length ≤ k) : lowD l k = 0 := by
  unfold lowD; rw [List.drop_eq_nil_of_le (by rw [List.length_take]; omega)]; rfl
theorem lowD_lt {l : List Nat} {k : Nat} (h : ∀ x ∈ l, x < 65536) (hk : k ≤ 4) : lowD l k < 65536 ^ (4 - k) := by
  unfold lowD
  have := vl_lt ((l.take 4).drop k) (fun x hx => h x (List.mem_of_mem_take (List.mem_of_mem_drop hx)))
  have h2 : 65536 ^ ((l.take 4).drop k).length ≤ 65536 ^ (4 - k) := Nat.pow_le_pow_right (by decide) (by rw [List.length_drop, List.length_take]; omega)
  omega

theorem of_big (n : Nat) (hn : n < 18446744073709551616) (w : World) : Calls Tryz.prog 59 #[.int .u64 n] w fun e w' => RetBig n e w' ∧ Below w.heap.size w w' :=
  (of_any n hn w).mono fun e w' ⟨h, hb⟩ => ⟨retBig_own h, hb⟩
theorem times_big (n m : Nat) (A B : Option Addr) (ca cb : Nat) (w : World) (hn : (dg16 n).length ≤ 1000) (hm : (dg16 m).length ≤ 1000) (hA : RowOf uc 1 w w.heap.size A (dg16 n)) (hB : RowOf uc 1 w w.heap.size B (dg16 m)) :
    Calls Tryz.prog 58 #[.slice A (dg16 n).length ca, .slice B (dg16 m).length cb] w fun e w' => RetBig (n * m) e w' ∧ Below w.heap.size w w' := by
  have := times_any A B ca cb (dg16 n) (dg16 m) w hn hm hA hB (dg16_dig n) (dg16_dig m)
  rwa [vl_dg16, vl_dg16] at this
theorem prod_signs (a b : Int) : a * b = if decide (a < 0) = decide (b < 0) then ((a.natAbs * b.natAbs : Nat) : Int) else -((a.natAbs * b.natAbs : Nat) : Int) := by
  rw [Int.natCast_mul]
  rcases Int.lt_or_le a 0 with ha | ha <;> rcases Int.lt_or_le b 0 with hb | hb
  · rw [if_pos (by simp [ha, hb]), show ((a.natAbs : Nat) : Int) = -a by omega, show ((b.natAbs : Nat) : Int) = -b by omega, Int.neg_mul_neg]
  · rw [if_neg (by simp [ha]; omega), show ((a.natAbs : Nat) : Int) = -a by omega, show ((b.natAbs : Nat) : Int) = b by omega, Int.neg_mul, Int.neg_neg]
  · rw [if_neg (by simp [hb]; omega), show ((a.natAbs : Nat) : Int) = a by omega, show ((b.natAbs : Nat) : Int) = -b by omega, Int.mul_neg, Int.neg_neg]
  · rw [if_pos (by simp; omega), show ((a.natAbs : Nat) : Int) = a by omega, show ((b.natAbs : Nat) : Int) = b by omega]

def SZ (x : Int) (n : Nat) : Prop := (-9223372036854775808 ≤ x ∧ x ≤ 9223372036854775807) ∧ x.natAbs = n
theorem size_sz (x : Int) (n : Nat) (w : World) (h : SZ x n) : Calls Tryz.prog 63 #[.int .i64 x] w fun e w' => e = .returned (.int .u64 n) ∧ w = w' := by
  rw [← h.2]; exact size_any x h.1.1 h.1.2 w
theorem of_keep (w : World) (n : Nat) (w1 : World) (A0 : Option Addr) (l0 : List Nat) (hn : n < 18446744073709551616) (hb : Below w.heap.size w w1) (hr : RowOf uc 1 w1 w1.heap.size A0 l0) :
    Calls Tryz.prog 59 #[.int .u64 n] w1 fun e w' => (RetBig n e w' ∧ RowOf uc 1 w' w'.heap.size A0 l0) ∧ Below w.heap.size w w' :=
  (of_big n hn w1).mono fun e w' ⟨h, hb'⟩ => ⟨⟨h, hr.after (Nat.le_refl _) hb'⟩, hb.trans (hb'.mono hb.size)⟩

theorem neg_end (P L : Nat) (hL : L = P % 18446744073709551616) : wrap64 (IntKind.u64.wrap (-(L : Int))) = wrap64 (-(P : Int)) := by
  subst hL
  unfold wrap64
  simp only [IntKind.wrap, IntKind.bits, IntKind.signed]
  simp
  omega
theorem pos_end (P L : Nat) (hL : L = P % 18446744073709551616) : wrap64 (L : Int) = wrap64 (P : Int) := by
  subst hL
  unfold wrap64
  omega

set_option maxRecDepth 100000 in
set_option maxHeartbeats 3200000 in
theorem refMul_core (sa sb : Bool) (a b : Int) (na nb : Nat) (w : World) (h1 : SZ a na) (h2 : SZ b nb) (hna : na < 18446744073709551616) (hnb : nb < 18446744073709551616) (da : decide (a < 0) = sa) (db : decide (b < 0) = sb) (N : Int)
    (hN : (sa != sb) = true → N = wrap64 (-((na * nb : Nat) : Int))) (hN2 : (sa != sb) = false → N = wrap64 ((na * nb : Nat) : Int)) :
    Calls Tryz.prog 48 #[.int .i64 a, .int .i64 b] w fun e w' => e = .returned (.int .i64 N) ∧ Below w.heap.size w w' := by
  have HS := Lib.hid size_sz
  have HO := Lib.hid (of_keep w)
  have la : (dg16 na).length ≤ 4 := dg16_len 4 _ (by simpa using hna)
  have lb : (dg16 nb).length ≤ 4 := dg16_len 4 _ (by simpa using hnb)
  have HT := Lib.hid (fun A B ca cb (w1 : World) (hw : Below w.heap.size w w1) hA hB => (times_big na nb A B ca cb w1 (by omega) (by omega) hA hB).mono fun e w' (h : RetBig (na * nb) e w' ∧ Below w1.heap.size w1 w') => (show RetBig (na * nb) e w' ∧ Below w.heap.size w w' from ⟨h.1, hw.trans (h.2.mono hw.size)⟩))
  have h00 : RowOf uc 1 w w.heap.size none [] := RowOf.nil_
  have hb0 : Below w.heap.size w w := Below.refl _ _
  have HD := Lib.hid (dg16_dig (na * nb))
  have HL4 := Lib.hid (vl_take4 (dg16 (na * nb)) (dg16_dig _))
  rw [vl_dg16] at HL4
  have HPN := Lib.hid hN
  have HPP := Lib.hid hN2
  have HLP := Lib.hid (show (dg16 (na * nb)).length ≤ 1000 from by
    have := dg16_len 8 (na * nb) (by
      have : na * nb < 18446744073709551616 * 18446744073709551616 := Nat.mul_lt_mul_of_lt_of_lt hna hnb
      rw [show (65536 : Nat) ^ 8 = 18446744073709551616 * 18446744073709551616 by decide]; exact this)
    omega)
  clear la lb hN hN2
  obtain ⟨P, hP⟩ : ∃ P, na * nb = P := ⟨_, rfl⟩
  rw [hP] at HT HD HL4 HPN HPP HLP
  go_enter Tryz.func48, Tryz.ntmps48
  go_wp2_with (first | (go_at_call 63; refine Calls.mono (HS.out _ _ _ (by assumption)) ?_; rintro e w1 ⟨rfl, rfl⟩) | (go_at_call 59; refine Calls.mono (HO.out _ _ _ _ (by assumption) (by assumption) (by assumption)) ?_; rintro e w1 ⟨⟨⟨A1, c1, rfl, hc1, hr1⟩, hk1⟩, hb1⟩) | (go_at_call 58; refine Calls.mono (HT.out _ _ _ _ _ (by assumption) (by assumption) (by assumption)) ?_; rintro e w3 ⟨⟨A3, c3, rfl, hc3, hr3⟩, hb3⟩))
  go_loopw [6, 7] (fun lv iv wr => ∃ (k : Nat), k ≤ 4 ∧ lv = .int .u64 (lowD (dg16 P) k : Nat) ∧ iv = .int .i64 ((k : Int) - 1) ∧ wr = w3) (fun _ iv _ => ((intOf iv) + 1).toNat)
  case atStart => exact ⟨4, Nat.le_refl _, by rw [lowD_four]; rfl, rfl, rfl⟩
  case round =>
    obtain ⟨k, hk, rfl, rfl, rfl⟩ := hrel
    by_cases h0 : k = 0
    · subst h0
      have hL : lowD (dg16 P) 0 = P % 18446744073709551616 := by rw [← HL4.out]; rfl
      have HNE := Lib.hid (neg_end P _ hL)
      have HPE := Lib.hid (pos_end P _ hL)
      clear hL
      generalize lowD (dg16 P) 0 = L at *
      cases sa with
      | true =>
       cases sb with
       | true =>
        have hz := HPP.out rfl
        go_wp2_with fail
        go_ret
        exact ⟨by rw [hz, ← HPE.out]; rfl, hb3⟩
       | false =>
        have hz := HPN.out rfl
        go_wp2_with fail
        go_ret
        exact ⟨by rw [hz, ← HNE.out]; rfl, hb3⟩
      | false =>
       cases sb with
       | true =>
        have hz := HPN.out rfl
        go_wp2_with fail
        go_ret
        exact ⟨by rw [hz, ← HNE.out]; rfl, hb3⟩
       | false =>
        have hz := HPP.out rfl
        go_wp2_with fail
        go_ret
        exact ⟨by rw [hz, ← HPE.out]; rfl, hb3⟩
    · obtain ⟨p, rfl⟩ : ∃ p, k = p + 1 := ⟨k - 1, by omega⟩
      have hbd : lowD (dg16 P) (p + 1) < 281474976710656 := by
        have := lowD_lt HD.out hk
        have h2 : 65536 ^ (4 - (p + 1)) ≤ 65536 ^ 3 := Nat.pow_le_pow_right (by decide) (by omega)
        rw [show (65536 : Nat) ^ 3 = 281474976710656 by decide] at h2
        omega
      have e1 : ((p + 1 : Nat) : Int) - 1 = (p : Int) := by omega
      rw [e1]
      by_cases hlt : p < (dg16 P).length
      · obtain ⟨x, hx⟩ := get_some hlt
        have HX := Lib.hid (lowD_in hx (by omega : p < 4))
        have hx2 := HD.out x (List.mem_of_getElem? hx)
        obtain ⟨bb, off, rfl, _, hc⟩ := row_uc hr3 hx
        clear hx
        generalize lowD (dg16 P) (p + 1) = L at *
        go_wp2_with fail
        refine ⟨⟨p, by omega, by rw [HX.out]; go_num, by go_num, by first | rfl | trivial⟩, by simp [intOf] <;> omega⟩
      · have HX := Lib.hid (lowD_out (show (dg16 P).length ≤ p by omega))
        have hz : lowD (dg16 P) (p + 1) = 0 := lowD_out (by omega)
        rw [hz]
        go_wp2_with fail
        refine ⟨⟨p, by omega, by rw [HX.out]; first | rfl | go_num, by go_num, by first | rfl | trivial⟩, by simp [intOf] <;> omega⟩

theorem refMul_any (a b : Int) (ha0 : -9223372036854775808 ≤ a) (ha1 : a ≤ 9223372036854775807) (hb0 : -9223372036854775808 ≤ b) (hb1 : b ≤ 9223372036854775807) (w : World) :
    Calls Tryz.prog 48 #[.int .i64 a, .int .i64 b] w fun e w' => e = .returned (.int .i64 (wrap64 (a * b))) ∧ Below w.heap.size w w' := by
  refine refMul_core (decide (a < 0)) (decide (b < 0)) a b a.natAbs b.natAbs w ⟨⟨ha0, ha1⟩, rfl⟩ ⟨⟨hb0, hb1⟩, rfl⟩ (by omega) (by omega) rfl rfl _ (fun h => ?_) (fun h => ?_)
  · rw [prod_signs a b, if_neg (by simpa using h)]
  · rw [prod_signs a b, if_pos (by simpa using h)]
end Go.Proofs.YtoonneminimbfaaGreatDoor
