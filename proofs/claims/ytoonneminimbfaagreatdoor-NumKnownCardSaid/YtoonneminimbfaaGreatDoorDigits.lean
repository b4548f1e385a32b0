/- num.digits, num.natural. -/
import Derived.Test.YtoonneminimbfaaGreatDoorBase
namespace Go.Proofs.YtoonneminimbfaaGreatDoor
open Go.RowKit
set_option linter.unusedVariables false
set_option linter.unusedSimpArgs false

def isDig (c : UInt8) : Bool := decide (48 ≤ c.toNat) && decide (c.toNat ≤ 57)
def digN (l : List UInt8) : Nat := (l.takeWhile isDig).length
theorem digN_le (l : List UInt8) : digN l ≤ l.length := by
  unfold digN
  exact (List.takeWhile_sublist isDig).length_le
theorem digN_at {l : List UInt8} {k : Nat} (hk : k ≤ l.length) (h : ∀ c ∈ l.take k, isDig c = true) (hs : k = l.length ∨ ∃ c, l[k]? = some c ∧ isDig c = false) : digN l = k := by
  unfold digN
  induction l generalizing k with
  | nil => simp at hk ⊢; omega
  | cons x l ih =>
    cases k with
    | zero =>
      rcases hs with hs | ⟨c, hc, hd⟩
      · simp at hs
      · simp at hc; subst hc; simp [hd]
    | succ k =>
      have hx : isDig x = true := h x (by simp)
      simp only [List.takeWhile_cons, hx, if_true, List.length_cons]
      rw [ih (k := k) (by simp at hk; omega) (fun c hc => h c (by simp [hc])) (by
        rcases hs with hs | ⟨c, hc, hd⟩
        · left; simp at hs; omega
        · right; exact ⟨c, by simpa using hc, hd⟩)]

set_option maxHeartbeats 800000 in
theorem digits_any (s : ByteArray) (w : World) (hs : s.size ≤ 9223372036854775807) :
    Calls Tryz.prog 80 #[.string s] w fun e w' => e = .returned (.int .i64 (digN s.data.toList)) ∧ w = w' := by
  go_enter Tryz.func80, Tryz.ntmps80
  go_wp2_with fail
  go_step3
  go_wp2_with fail
  go_step3
  go_wp2_with fail
  go_loop [3, 4] (fun n _ => ∃ k : Nat, k ≤ s.size ∧ n = .int .i64 k ∧ ∀ c ∈ s.data.toList.take k, isDig c = true) (fun n _ => s.size - (intOf n).toNat)
  case atStart => exact ⟨0, Nat.zero_le _, rfl, by simp⟩
  case round =>
    obtain ⟨k, hk, rfl, hd⟩ := hrel
    have HD := Lib.hid hd
    clear hd
    have hsz : s.data.toList.length = s.size := rfl
    by_cases hlt : k < s.size
    · have hget : s.data.toList[k]? = some s[k] := by
        rw [List.getElem?_eq_getElem (by rw [hsz]; exact hlt)]; rfl
      have HG := Lib.hid hget
      have HZ := Lib.hid hsz
      clear hget hsz
      obtain ⟨c, hc⟩ : ∃ c, s[k] = c := ⟨_, rfl⟩
      have HGc := Lib.hid (HG.out.trans (congrArg some hc))
      by_cases hdig : isDig c = true
      · have h1 : ¬ (c.toNat : Int) < 48 := by simp [isDig] at hdig; omega
        have h2 : ¬ (57 : Int) < (c.toNat : Int) := by simp [isDig] at hdig; omega
        have HDG := Lib.hid hdig
        clear hdig
        go_wp2_with fail
        go_round
        case rel =>
          refine ⟨k + 1, by omega, by go_num, fun x hx => ?_⟩
          rw [List.take_add_one, HGc.out] at hx
          simp at hx
          rcases hx with hx | hx
          · exact HD.out x hx
          · rw [hx]; exact HDG.out
        case measure => simp [intOf]; omega
      · have hE := Lib.hid (digN_at (k := k) (l := s.data.toList) (by rw [HZ.out]; omega) HD.out (.inr ⟨c, HGc.out, by simpa using hdig⟩))
        have HE := Lib.hid hE
        clear hE
        by_cases h1 : (c.toNat : Int) < 48
        · clear hdig
          go_wp2_with fail
          first | go_ret | (rw [Exit.noGoto_ret]; go_ret)
          exact ⟨ret_int (by rw [HE.out]), rfl⟩
        · have h2 : (57 : Int) < (c.toNat : Int) := by simp [isDig] at hdig; omega
          clear hdig
          go_wp2_with fail
          first | go_ret | (rw [Exit.noGoto_ret]; go_ret)
          exact ⟨ret_int (by rw [HE.out]), rfl⟩
    · obtain rfl : k = s.size := by omega
      have hE := digN_at (k := s.size) (l := s.data.toList) (by rw [hsz]; omega) HD.out (.inl hsz.symm)
      have HE := Lib.hid hE
      clear hE hsz
      go_wp2_with fail
      first | go_ret | (rw [Exit.noGoto_ret]; go_ret)
      exact ⟨ret_int (by rw [HE.out]), rfl⟩
end Go.Proofs.YtoonneminimbfaaGreatDoor
